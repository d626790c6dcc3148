-- by hand: slices.Grow from nil, slices.Concat of two rows
import Derived.LoopN
import Derived.Test.YtmjeoknamoegpaaIns
namespace Go.Proofs.Ytmjeoknamoegpaa.P
open Go.RowKit Go.Proofs.YtmjeoknamoegpaaW.PrintWords Go.Proofs.YtmjeoknamoegpaaW.PrintLast Go.Proofs.YtmjeoknamoegpaaW.PrintMore
set_option linter.unusedVariables false
set_option linter.unusedSimpArgs false

set_option maxHeartbeats 1000000 in
set_option maxRecDepth 100000 in
theorem grow_calls (n : Nat) (hn : n ≤ 3000000) (w : World) :
    Calls Try.prog 51 #[.slice none 0 0, .int .i64 (n : Int)] w fun e w' => ∃ v : Value, e = .returned v ∧ Kd.N k30 30 w' w.heap.size (fun k => w.heap.size ≤ k) v [] ∧ Below w.heap.size w w' := by
  rcases Nat.eq_zero_or_pos n with h0 | hp
  · subst h0
    go_enter Try.func51, Try.ntmps51
    go_wp2
    go_ret
    exact ⟨_, rfl, Kd.N_nil _ _ _ _ _, Below.refl _ _⟩
  · have h1 : (0 : Int) < (n : Int) := by omega
    go_enter Try.func51, Try.ntmps51
    go_wp2_with ((with_reducible refine gate_builtin (b := .append) (xs := #[.tmp 20, .tmp 21]) rfl ?_); at_builtin; refine Kd.N_append_zeros k30 (w0 := w) w.heap.size rfl (.tmp 20) (.tmp 21) 23 3 30 (.agg #[(.int .u8 0), (.int .i64 0), (.slice none 0 0), (.slice none 0 0), (.slice none 0 0)]) 88 rfl Try.underlying23 Try.underlying3 info30 rfl (by decide) (by omega) (.slice none 0 0) [] z30 (n : Int) (fun k => w.heap.size ≤ k) rfl rfl (op3_FK _ _ _ _) (fun k hk => hk) (Kd.N_nil _ _ _ _ _) (by omega) (Below.refl _ _) (Nat.le_refl _) (by simp; omega) ?_; intro v1 w2 hN1 hB1 hg1 hat1; obtain ⟨A1, c1, rfl⟩ := Kd.N_slice hN1; have HN1 := Aside0.mk (Kd.N_take (m := 0) hN1 (Nat.zero_le _)); have HB1 := Aside0.mk hB1; clear hN1 hB1 hg1 hat1)
    go_ret
    exact ⟨_, rfl, HN1.out, HB1.out⟩

set_option maxHeartbeats 2000000 in
set_option maxRecDepth 100000 in
theorem concat_calls (b : Nat) (A1 : Option Addr) (c1 : Nat) (D : List S30) (A2 : Option Addr) (c2 : Nat) (G : List S30) (ok : Nat → Prop) (w : World) (h1 : w.cell? ⟨b, 0, none⟩ = some (.slice A1 D.length c1)) (h2 : w.cell? ⟨b, 1, none⟩ = some (.slice A2 G.length c2))
    (hD : Kd.F k30 w ok A1 D.length D) (hG : Kd.F k30 w ok A2 G.length G) (hl : D.length + G.length ≤ 3000000) :
    Calls Try.prog 39 #[.slice (some ⟨b, 0, none⟩) 2 2] w fun e w' => ∃ v : Value, e = .returned v ∧ Kd.N k30 30 w' w.heap.size (fun k => (ok k ∧ k < w.heap.size) ∨ w.heap.size ≤ k) v (D ++ G) ∧ Below w.heap.size w w' := by
  have HD := Aside0.mk (Kd.F_bound hD)
  have HG := Aside0.mk (Kd.F_bound hG)
  have H1 := Aside0.mk h1
  have H2 := Aside0.mk h2
  clear hD hG
  have q1 : (0 : Int) ≤ (D.length : Int) := Int.natCast_nonneg _
  have q2 : (0 : Int) ≤ (D.length : Int) + (G.length : Int) := by omega
  have hgr := grow_calls (D.length + G.length) hl w
  rw [Int.natCast_add] at hgr
  have HGR := Aside0.mk hgr
  clear hgr
  go_enter Try.func39, Try.ntmps39
  go_wp2_with fail
  refine wp_loop_rounds 3 ?_
  rw [rounds_succ]
  go_wp2_with fail
  rw [rounds_succ]
  go_wp2_with fail
  rw [rounds_succ]
  go_wp2_with fail
  go_at_call 51
  refine HGR.out.mono ?_
  rintro e w1 ⟨v, rfl, hN, hb⟩
  clear HGR
  have HN := Aside0.mk (Kd.N_mono (ok' := fun k => (ok k ∧ k < w.heap.size) ∨ w.heap.size ≤ k) hN (fun k hk => .inr hk))
  have HB := Aside0.mk hb
  replace HD := Aside0.mk (Kd.F_below HD.out hb)
  replace HG := Aside0.mk (Kd.F_below HG.out hb)
  replace h1 := (hb.cell (World.block_lt_of_cell? _ _ H1.out)).trans H1.out
  replace h2 := (hb.cell (World.block_lt_of_cell? _ _ H2.out)).trans H2.out
  have H1b := Aside0.mk (World.block_lt_of_cell? _ _ H1.out)
  have H1c := Aside0.mk h1
  have H2c := Aside0.mk h2
  clear hN hb H1 H2
  go_wp2_with fail
  refine wp_loop_rounds 3 ?_
  rw [rounds_succ]
  go_wp2_with ((with_reducible refine gate_builtin (b := .append) (xs := #[.tmp 31, .tmp 32]) rfl ?_); at_builtin; refine Kd.N_append_rows k30 (w0 := w) w.heap.size rfl (.tmp 31) (.tmp 32) 23 30 (.agg #[(.int .u8 0), (.int .i64 0), (.slice none 0 0), (.slice none 0 0), (.slice none 0 0)]) 88 rfl Try.underlying23 info30 rfl (by decide) (by omega) v [] D A1 D.length c1 (fun k => (ok k ∧ k < w.heap.size) ∨ w.heap.size ≤ k) (fun k => ok k ∧ k < w.heap.size) rfl rfl HN.out HD.out (fun k hk => ⟨.inl hk, fun e_ => by have := Kd.N_base HN.out k e_.symm; omega⟩) (fun k hk => .inr (Nat.le_trans HB.out.size hk)) HB.out HB.out.size (by (try simp only [List.length_nil]); omega) ?_; intro v1 w2 ho hB1 hg hat; have Ao := Aside0.mk ho; have AB := Aside0.mk hB1; have Ag := Aside0.mk hg; clear ho hB1 hg hat)
  have hne : some b ≠ v.ownBlock := fun e_ => by
    have h1_ := Kd.N_base HN.out b e_.symm
    have h2_ := H1b.out
    omega
  have HG2 := Aside0.mk (Kd.F_grown HG.out Ag.out (fun k hk e_ => by
    have h1_ := Kd.N_base HN.out k e_.symm
    omega))
  have h2' : w2.cell? ⟨b, 1, none⟩ = some (.slice A2 G.length c2) := by
    have h_ := Ag.out.block b (World.block_lt_of_cell? w1 _ H2c.out) hne
    have h3_ := H2c.out
    simp only [World.cell?, h_] at h3_ ⊢
    exact h3_
  have hn2 := Ao.out
  rw [List.nil_append] at hn2
  have HN2 := Aside0.mk hn2
  have HB2 := Aside0.mk AB.out
  clear Ao AB Ag hne h1 h2 hn2
  replace HN := HN2
  replace HB := HB2
  replace HG := HG2
  clear HN2 HB2 HG2
  rw [rounds_succ]
  go_wp2_with ((with_reducible refine gate_builtin (b := .append) (xs := #[.tmp 31, .tmp 32]) rfl ?_); at_builtin; refine Kd.N_append_rows k30 (w0 := w) w.heap.size rfl (.tmp 31) (.tmp 32) 23 30 (.agg #[(.int .u8 0), (.int .i64 0), (.slice none 0 0), (.slice none 0 0), (.slice none 0 0)]) 88 rfl Try.underlying23 info30 rfl (by decide) (by omega) v1 D G A2 G.length c2 (fun k => (ok k ∧ k < w.heap.size) ∨ w.heap.size ≤ k) (fun k => ok k ∧ k < w.heap.size) rfl rfl HN.out HG.out (fun k hk => ⟨.inl hk, fun e_ => by have := Kd.N_base HN.out k e_.symm; omega⟩) (fun k hk => .inr (Nat.le_trans HB.out.size hk)) HB.out HB.out.size (by (try simp only [List.length_nil]); omega) ?_; intro v2 w3 ho hB1 hg hat; have HB2 := Aside0.mk hB1; have HN2 := Aside0.mk ho; clear ho hB1 hg hat)
  rw [rounds_succ]
  go_wp2_with fail
  go_ret
  exact ⟨_, rfl, HN2.out, HB2.out⟩
end Go.Proofs.Ytmjeoknamoegpaa.P
