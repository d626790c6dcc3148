-- by hand (printed by wip/tools/gen_ret.py): (*normal.Maker).Retain
import Derived.Test.YtmjeoknamoegpaaIns
namespace Go.Proofs.Ytmjeoknamoegpaa.P
open Go.RowKit Go.Proofs.YtmjeoknamoegpaaW.PrintWords Go.Proofs.YtmjeoknamoegpaaW.PrintLast Go.Proofs.YtmjeoknamoegpaaW.PrintMore
set_option linter.unusedVariables false
set_option linter.unusedSimpArgs false
theorem Kd.N_ok {α : Type} {d : Kd α} {e : Nat} {w : World} {base : Nat} {ok : Nat → Prop} {v : Value} {xs : List α} (h : Kd.N d e w base ok v xs) : ∀ k, v.ownBlock = some k → ok k := h.1
theorem gapP_len (I : List S30) (g : Int) : (gapP I g).length ≤ I.length + 1 := by
  unfold gapP
  split <;> simp
/-- The maker behind a gap: D1 is done and the gap's ops, no inserts are left. -/
def MkGap (w w' : World) (base : Nat) (ok : Nat → Prop) (p : Nat) (v : Value) (D1 : List S30) : Prop :=
  w'.heap[p]? = some (.cells #[v, .slice none 0 0, .int .i64 0] 46 (0, 0)) ∧ ∃ okD : Nat → Prop, Kd.N k30 30 w' base okD v D1 ∧ (∀ k, okD k → base ≤ k ∧ (ok k ∨ w.heap.size ≤ k) ∧ k ≠ p) ∧ Kept w w' ok ∧ Below base w w'

set_option maxHeartbeats 4000000 in
set_option maxRecDepth 100000 in
theorem retain_0 (p : Nat) (D I : List S30) (g : Int) (base : Nat) (ok : Nat → Prop) (n : Int) (Ap : Option Addr) (cp : Nat) (pt : List S42) (w : World) (hM : Mk w base ok p D I g) (hbase : base ≤ w.heap.size) (hC : ∀ w', Kept w w' ok → Below base w w' → Kd.C k42 w' Ap pt.length pt) (hcp : pt.length ≤ cp) (hn : 1 ≤ n) (hpl : pt.length ≤ 1000000) (hIl : I.length ≤ 1000000) (hDl : D.length ≤ 1000000) (D1 : List S30) (hD1 : D ++ gapP I g = D1) (hL1 : D1.length = 0) :
    Calls Try.prog 20 #[.pointer (some ⟨p, 0, none⟩), .int .i64 n, .slice Ap pt.length cp] w fun e w' => e = .returned (.tuple #[]) ∧ MkPost w base ok p (D1 ++ [(⟨1, n, [], [], pt⟩ : S30)]) [] 0 w' := by
  obtain ⟨vD, vI, okD, okI, h1, h2, h3, h4, h5, h6, h7⟩ := hM.bound
  have BK := Aside0.mk h1
  have HP := Aside0.mk (blk_lt h1)
  have HD := Aside0.mk h4
  have HI := Aside0.mk h5
  have H6 : Aside0 (∀ k, okD k → base ≤ k ∧ ok k ∧ k ≠ p ∧ k < w.heap.size) := Aside0.mk (fun k hk => ⟨(h6 k hk).1, (h6 k hk).2.1.1, (h6 k hk).2.2, (h6 k hk).2.1.2⟩)
  have H7 : Aside0 (∀ k, okI k → base ≤ k ∧ ok k ∧ k ≠ p ∧ ¬ okD k ∧ k < w.heap.size) := Aside0.mk (fun k hk => ⟨(h7 k hk).1, (h7 k hk).2.1.1, (h7 k hk).2.2.1, (h7 k hk).2.2.2, (h7 k hk).2.1.2⟩)
  have H3 := Aside0.mk h3.1
  have HK := Aside0.mk (Kept.refl w ok)
  have HB := Aside0.mk (Below.refl base w)
  have HZ := Aside0.mk (Nat.le_refl w.heap.size)
  obtain ⟨Ai, ci, hvI⟩ := Kd.S_slice h5
  subst hvI
  have c0 : w.cell? ⟨p, 0, none⟩ = some vD := (blk_cell h1 0).trans rfl
  have hn1 : decide (n < 1) = false := decide_eq_false (by omega)
  have HD1 := Aside0.mk hD1
  have HL1 := Aside0.mk hL1
  clear hD1 hL1
  have HC := Aside0.mk hC
  have HP_ := Aside0.mk (hC w (Kept.refl _ _) (Below.refl _ _))
  clear h1 h3 h4 h5 h6 h7 hM hC
  go_enter Try.func20, Try.ntmps20
  go_wp2_with fail
  refine start_ (n := 11) (S := fun w' => w'.cell? ⟨p, 0, none⟩ = some vD) (ds := [10]) #[false, false, false, false, false, false, false, false, false, false, false] (by kernel_rfl) rfl rfl ((blk_cell (w := w.drew) BK.out 0).trans rfl) (fun hHeld => ?_)
  have hb := below_drew (Below.refl w.heap.size w)
  generalize w.drew = w2 at hb hHeld ⊢
  replace BK := Aside0.mk (blk_below BK.out hb)
  replace HD := Aside0.mk (Kd.N_below HD.out hb)
  replace HB := Aside0.mk (below_then HB.out (Nat.le_trans hbase HZ.out) hb)
  replace HK := Aside0.mk (HK.out.below hb)
  replace HZ := Aside0.mk (Nat.le_trans HZ.out hb.size)
  replace HI := Aside0.mk (Kd.S_below HI.out hb)
  replace HP_ := Aside0.mk (Kd.C_below HP_.out hb)
  clear hb
  refine pure_ (i := 0) (N := some 13) (v := ?_) (a' := ?_) #[true, false, false, false, false, false, false, false, false, false, false] rfl rfl (any_of rfl (by kernel_rfl)) (fun _ _ _ h => h) (Or.inl ⟨by rfl, ?_⟩) ?_ ?_
  rotate_left
  · intro w'
    go_simp
    with_reducible rfl
  rotate_left
  · simp only [Act.put, List.setIfInBounds_toArray, List.set_cons_zero, List.set_cons_succ, i64_w, i32_w]
    rfl
  refine pure_ (i := 1) (N := some 14) (v := ?_) (a' := ?_) #[true, true, false, false, false, false, false, false, false, false, false] rfl rfl (any_of rfl (by kernel_rfl)) (fun _ _ _ h => h) (Or.inl ⟨by rfl, ?_⟩) ?_ ?_
  rotate_left
  · intro w'
    go_simp
    with_reducible rfl
  rotate_left
  · simp only [Act.put, List.setIfInBounds_toArray, List.set_cons_zero, List.set_cons_succ, i64_w, i32_w]
    rfl
  refine pure_ (i := 2) (N := some 15) (v := ?_) (a' := ?_) #[true, true, true, false, false, false, false, false, false, false, false] rfl rfl (any_of rfl (by kernel_rfl)) (fun _ _ _ h => h) (Or.inl ⟨by rfl, ?_⟩) ?_ ?_
  rotate_left
  · intro w'
    go_simp
    with_reducible rfl
  rotate_left
  · simp only [Act.put, List.setIfInBounds_toArray, List.set_cons_zero, List.set_cons_succ, i64_w, i32_w]
    rfl
  refine pure_ (i := 3) (N := some 16) (v := ?_) (a' := ?_) #[true, true, true, true, false, false, false, false, false, false, false] rfl rfl (any_of rfl (by kernel_rfl)) (fun _ _ _ h => h) (Or.inl ⟨by rfl, ?_⟩) ?_ ?_
  rotate_left
  · intro w'
    go_simp
    with_reducible rfl
  rotate_left
  · simp only [Act.put, List.setIfInBounds_toArray, List.set_cons_zero, List.set_cons_succ, i64_w, i32_w]
    rfl
  refine pure_ (i := 5) (N := some 18) (v := ?_) (a' := ?_) #[true, true, true, true, false, true, false, false, false, false, false] rfl rfl (any_of rfl (by kernel_rfl)) (fun _ _ _ h => h) (Or.inl ⟨by rfl, ?_⟩) ?_ ?_
  rotate_left
  · intro w'
    go_simp
    with_reducible rfl
  rotate_left
  · simp only [Act.put, List.setIfInBounds_toArray, List.set_cons_zero, List.set_cons_succ, i64_w, i32_w]
    rfl
  refine take_ (i := 4) (N := some 17) (v := ?_) (a' := ?_) #[true, true, true, true, true, true, false, false, false, false, false] rfl rfl (take_of rfl (by kernel_rfl)) (fun _ _ _ h => h) (Or.inl ⟨by rfl, ?_⟩) hHeld ?_ ?_
  rotate_left
  · rintro w' s0
    go_simp
    with_reducible rfl
  rotate_left
  · simp only [Act.put, List.setIfInBounds_toArray, List.set_cons_zero, List.set_cons_succ, i64_w, i32_w]
    rfl
  refine one_ (i := 6) (N := some 19) #[true, true, true, true, true, true, true, false, false, false, false] rfl rfl (one_of rfl (by kernel_rfl)) (by decide) (fun K hK => ?_)
  refine goes_ Try.func35 (by kernel_rfl) rfl #[.pointer (some ⟨p, 0, none⟩)] (by rfl) rfl rfl (by (try simp only [List.map_toArray, List.map_cons, List.map_nil]); first | done | rfl) ?_
  refine (gap_calls p Ai ci I g okI w2 ((blk_cell BK.out 1).trans rfl) ((blk_cell BK.out 2).trans rfl) (Kd.S_V HI.out) hIl).mono ?_
  rintro e w3 ⟨vg, rfl, hN, hb⟩
  have HN := Aside0.mk hN
  have HZ2 := Aside0.mk HZ.out
  replace BK := Aside0.mk (blk_below BK.out hb)
  replace HD := Aside0.mk (Kd.N_below HD.out hb)
  replace HB := Aside0.mk (below_then HB.out (Nat.le_trans hbase HZ.out) hb)
  replace HK := Aside0.mk (HK.out.below hb)
  replace HZ := Aside0.mk (Nat.le_trans HZ.out hb.size)
  replace HP_ := Aside0.mk (Kd.C_below HP_.out hb)
  clear hN hb HI
  obtain ⟨Ag, cg, rfl⟩ := Kd.N_slice HN.out
  refine ⟨_, rfl, ?_⟩
  refine hK.out _ _ ((blk_cell BK.out 0).trans rfl) (fun hHeld => ?_)
  clear hK K
  refine norm_ (a' := ?_) ?_ ?_
  rotate_left
  · show Act.put _ (some 19) _ = _
    simp only [Act.put, List.setIfInBounds_toArray, List.set_cons_zero, List.set_cons_succ, i64_w, i32_w]
    rfl
  refine one_ (i := 7) (N := some 20) #[true, true, true, true, true, true, true, true, false, false, false] rfl rfl (one_of rfl (by kernel_rfl)) (by decide) (fun K hK => ?_)
  refine Kd.N_append_rows_step k30 (w0 := w) base (by rfl) (.tmp 17) (.tmp 19) 23 30 (.agg #[(.int .u8 0), (.int .i64 0), (.slice none 0 0), (.slice none 0 0), (.slice none 0 0)]) 88 rfl Try.underlying23 info30 rfl (by decide) (by omega) vD D (gapP I g) Ag (gapP I g).length cg (fun k => (okD k ∨ okI k) ∨ w.heap.size ≤ k) (fun k => okI k ∨ w2.heap.size ≤ k) rfl rfl (Kd.N_mono HD.out (fun k hk => .inl (.inl hk))) (Kd.N_F HN.out) ?aQ (fun k hk => .inr (Nat.le_trans HZ.out hk)) HB.out (Nat.le_trans hbase HZ.out) (by have := gapP_len I g; omega) ?_
  (case aQ => exact fun k hk => hk.elim (fun h_ => ⟨.inl (.inr h_), fun e_ => (H7.out k h_).2.2.2.1 (Kd.N_ok HD.out k e_.symm)⟩) (fun h_ => ⟨.inr (Nat.le_trans HZ2.out h_), fun e_ => by have := (H6.out k (Kd.N_ok HD.out k e_.symm)).2.2.2; have := HZ2.out; omega⟩))
  intro v1 w4 ho hb hg hat
  rw [HD1.out] at ho
  replace BK := Aside0.mk (blk_grown BK.out hg (fun e_ => (H6.out p (Kd.N_ok HD.out p e_.symm)).2.2.1 rfl))
  replace HK := Aside0.mk (Kept.of_grown hg HK.out (fun k e_ => .inl (H6.out k (Kd.N_ok HD.out k e_)).2.1))
  have hz4 := hg.size
  have HV := Aside0.mk (HC.out w4 HK.out hb)
  obtain ⟨A1, c1, rfl⟩ := Kd.N_slice ho
  rw [HL1.out] at ho ⊢
  replace HD := Aside0.mk ho
  replace HB := Aside0.mk hb
  clear ho hb hg hat HN
  refine hK.out _ _ ((blk_cell BK.out 0).trans rfl) (fun hHeld => ?_)
  clear hK K
  refine norm_ (a' := ?_) ?_ ?_
  rotate_left
  · show Act.put _ (some 20) _ = _
    simp only [Act.put, List.setIfInBounds_toArray, List.set_cons_zero, List.set_cons_succ, i64_w, i32_w]
    rfl
  refine pure_ (i := 8) (N := some 21) (v := ?_) (a' := ?_) #[true, true, true, true, true, true, true, true, true, false, false] rfl rfl (any_of rfl (by kernel_rfl)) (fun _ _ _ h => h) (Or.inl ⟨by rfl, ?_⟩) ?_ ?_
  rotate_left
  · intro w'
    go_simp
    with_reducible rfl
  rotate_left
  · simp only [Act.put, List.setIfInBounds_toArray, List.set_cons_zero, List.set_cons_succ, i64_w, i32_w]
    rfl
  refine pure_ (i := 9) (N := some 22) (v := ?_) (a' := ?_) #[true, true, true, true, true, true, true, true, true, true, false] rfl rfl (any_of rfl (by kernel_rfl)) (fun _ _ _ h => h) (Or.inl ⟨by rfl, ?_⟩) ?_ ?_
  rotate_left
  · intro w'
    go_simp
    with_reducible rfl
  rotate_left
  · simp only [Act.put, List.setIfInBounds_toArray, List.set_cons_zero, List.set_cons_succ, i64_w, i32_w]
    rfl
  refine last_ (i := 10) (N := none) #[true, true, true, true, true, true, true, true, true, true, true] rfl rfl (one_of rfl (by kernel_rfl)) (by decide) (fun K hK => ?_)
  have e0 : w4.cell? ⟨p, 0, none⟩ = some vD := (blk_cell BK.out 0).trans rfl
  have f0 := blk_frozen BK.out 0
  refine skip_ (w1 := w4.setCell ⟨p, 0, none⟩ (.slice A1 0 c1)) (by rfl) rfl ?_ ?_
  · go_simp
    try rfl
  refine hK.out _ _ ?_
  clear hK K
  refine done_ (done_of rfl (by kernel_rfl)) ?_
  clear c0 hHeld
  have BK5 := Aside0.mk (blk_put BK.out 0 (.slice A1 0 c1) rfl)
  have hkp : ∀ k, ((okD k ∨ okI k) ∨ w.heap.size ≤ k) → k ≠ p := fun k hk e_ => hk.elim (fun h_ => h_.elim (fun h2_ => (H6.out k h2_).2.2.1 e_) (fun h2_ => (H7.out k h2_).2.2.1 e_)) (fun h_ => by have := HP.out; omega)
  have HD5 := Aside0.mk (Kd.N_far HD.out (p := ⟨p, 0, none⟩) hkp (.slice A1 0 c1))
  have HK5 := Aside0.mk (HK.out.setCell (p := ⟨p, 0, none⟩) (.inl H3.out) (.slice A1 0 c1))
  have HB5 := Aside0.mk (HB.out.setCell (p := ⟨p, 0, none⟩) h2 (.slice A1 0 c1))
  have HKP := Aside0.mk hkp
  clear BK HD HK HB
  generalize w4.setCell ⟨p, 0, none⟩ (.slice A1 0 c1) = w5 at BK5 HD5 HK5 HB5 ⊢
  have e1 : w5.cell? ⟨p, 1, none⟩ = some (.slice Ai I.length ci) := (blk_cell BK5.out 1).trans rfl
  have e2 : w5.cell? ⟨p, 2, none⟩ = some (.int .i64 g) := (blk_cell BK5.out 2).trans rfl
  have f1 := blk_frozen BK5.out 1
  have f2 := blk_frozen BK5.out 2
  clear hkp
  go_upto_region 3 with (fail)
  have BK6 := Aside0.mk (blk_put (blk_put BK5.out 1 (.slice none 0 0) rfl) 2 (.int .i64 0) rfl)
  have HD6 := Aside0.mk (Kd.N_far (Kd.N_far HD5.out (p := ⟨p, 1, none⟩) HKP.out (.slice none 0 0)) (p := ⟨p, 2, none⟩) HKP.out (.int .i64 0))
  have HK6 := Aside0.mk ((HK5.out.setCell (p := ⟨p, 1, none⟩) (.inl H3.out) (.slice none 0 0)).setCell (p := ⟨p, 2, none⟩) (.inl H3.out) (.int .i64 0))
  have HB6 := Aside0.mk ((HB5.out.setCell (p := ⟨p, 1, none⟩) h2 (.slice none 0 0)).setCell (p := ⟨p, 2, none⟩) h2 (.int .i64 0))
  clear BK5 HD5 HK5 HB5 e1 e2 f1 f2
  generalize (w5.setCell ⟨p, 1, none⟩ (.slice none 0 0)).setCell ⟨p, 2, none⟩ (.int .i64 0) = w6 at BK6 HD6 HK6 HB6 ⊢
  have cp0 : w6.cell? ⟨p, 0, none⟩ = some (.slice A1 0 c1) := (blk_cell BK6.out 0).trans rfl
  go_wp2_with fail
  clear cp0
  refine start_ (n := 14) (S := fun w' => w'.cell? ⟨p, 0, none⟩ = some (.slice A1 0 c1)) (ds := [13]) #[false, false, false, false, false, false, false, false, false, false, false, false, false, false] (by kernel_rfl) rfl rfl ((blk_cell (w := w6.drew) BK6.out 0).trans rfl) (fun hHeld => ?_)
  have hb := below_drew (Below.refl w6.heap.size w6)
  generalize w6.drew = w8 at hb hHeld ⊢
  replace BK6 := Aside0.mk (blk_below BK6.out hb)
  replace HD6 := Aside0.mk (Kd.N_below HD6.out hb)
  replace HB6 := Aside0.mk (below_then HB6.out (Nat.le_trans hbase HK6.out.1) hb)
  replace HK6 := Aside0.mk (HK6.out.below hb)
  clear hb
  have HPt := Aside0.mk (HC.out w8 HK6.out HB6.out)
  refine pure_ (i := 0) (N := some 72) (v := ?_) (a' := ?_) #[true, false, false, false, false, false, false, false, false, false, false, false, false, false] rfl rfl (any_of rfl (by kernel_rfl)) (fun _ _ _ h => h) (Or.inl ⟨by rfl, ?_⟩) ?_ ?_
  rotate_left
  · intro w'
    go_simp
    with_reducible rfl
  rotate_left
  · simp only [Act.put, List.setIfInBounds_toArray, List.set_cons_zero, List.set_cons_succ, i64_w, i32_w]
    rfl
  refine pure_ (i := 1) (N := some 73) (v := ?_) (a' := ?_) #[true, true, false, false, false, false, false, false, false, false, false, false, false, false] rfl rfl (any_of rfl (by kernel_rfl)) (fun _ _ _ h => h) (Or.inl ⟨by rfl, ?_⟩) ?_ ?_
  rotate_left
  · intro w'
    go_simp
    with_reducible rfl
  rotate_left
  · simp only [Act.put, List.setIfInBounds_toArray, List.set_cons_zero, List.set_cons_succ, i64_w, i32_w]
    rfl
  refine pure_ (i := 2) (N := some 74) (v := ?_) (a' := ?_) #[true, true, true, false, false, false, false, false, false, false, false, false, false, false] rfl rfl (any_of rfl (by kernel_rfl)) (fun _ _ _ h => h) (Or.inl ⟨by rfl, ?_⟩) ?_ ?_
  rotate_left
  · intro w'
    go_simp
    with_reducible rfl
  rotate_left
  · simp only [Act.put, List.setIfInBounds_toArray, List.set_cons_zero, List.set_cons_succ, i64_w, i32_w]
    rfl
  refine pure_ (i := 3) (N := some 75) (v := ?_) (a' := ?_) #[true, true, true, true, false, false, false, false, false, false, false, false, false, false] rfl rfl (any_of rfl (by kernel_rfl)) (fun _ _ _ h => h) (Or.inl ⟨by rfl, ?_⟩) ?_ ?_
  rotate_left
  · intro w'
    go_simp
    with_reducible rfl
  rotate_left
  · simp only [Act.put, List.setIfInBounds_toArray, List.set_cons_zero, List.set_cons_succ, i64_w, i32_w]
    rfl
  refine pure_ (i := 5) (N := some 77) (v := ?_) (a' := ?_) #[true, true, true, true, false, true, false, false, false, false, false, false, false, false] rfl rfl (any_of rfl (by kernel_rfl)) (fun _ _ _ h => h) (Or.inl ⟨by rfl, ?_⟩) ?_ ?_
  rotate_left
  · intro w'
    go_simp
    with_reducible rfl
  rotate_left
  · simp only [Act.put, List.setIfInBounds_toArray, List.set_cons_zero, List.set_cons_succ, i64_w, i32_w]
    rfl
  refine pure_ (i := 6) (N := some 78) (v := ?_) (a' := ?_) #[true, true, true, true, false, true, true, false, false, false, false, false, false, false] rfl rfl (any_of rfl (by kernel_rfl)) (fun _ _ _ h => h) (Or.inl ⟨by rfl, ?_⟩) ?_ ?_
  rotate_left
  · intro w'
    go_simp
    with_reducible rfl
  rotate_left
  · simp only [Act.put, List.setIfInBounds_toArray, List.set_cons_zero, List.set_cons_succ, i64_w, i32_w]
    rfl
  refine take_ (i := 4) (N := some 76) (v := ?_) (a' := ?_) #[true, true, true, true, true, true, true, false, false, false, false, false, false, false] rfl rfl (take_of rfl (by kernel_rfl)) (fun _ _ _ h => h) (Or.inl ⟨by rfl, ?_⟩) hHeld ?_ ?_
  rotate_left
  · rintro w' s0
    go_simp
    with_reducible rfl
  rotate_left
  · simp only [Act.put, List.setIfInBounds_toArray, List.set_cons_zero, List.set_cons_succ, i64_w, i32_w]
    rfl
  refine one_ (i := 7) (N := some 79) #[true, true, true, true, true, true, true, true, false, false, false, false, false, false] rfl rfl (one_of rfl (by kernel_rfl)) (by decide) (fun K hK => ?_)
  refine goes_ Try.func36 (by kernel_rfl) rfl #[.slice Ap pt.length cp] (by rfl) rfl rfl (by (try simp only [List.map_toArray, List.map_cons, List.map_nil]); first | done | rfl) ?_
  refine (patch_Copy.calls Ap cp pt pt w8 HPt.out hcp (copyC_eq pt hpl)).mono ?_
  rintro e w9 ⟨vp, rfl, hv, hb⟩
  obtain ⟨A4_, c4_, rfl⟩ := Kd.R_slice hv
  have VP := Aside0.mk (Kd.R_bound hv)
  have HW := Aside0.mk (fun k (e_ : Value.ownBlock (.slice A1 0 c1) = some k) => Kd.N_lt HD6.out k e_)
  have HZ8 := Aside0.mk HK6.out.1
  replace BK6 := Aside0.mk (blk_below BK6.out hb)
  replace HD6 := Aside0.mk (Kd.N_below HD6.out hb)
  replace HB6 := Aside0.mk (below_then HB6.out (Nat.le_trans hbase HK6.out.1) hb)
  replace HK6 := Aside0.mk (HK6.out.below hb)
  clear hv hb HPt
  refine ⟨_, rfl, ?_⟩
  refine hK.out _ _ ((blk_cell BK6.out 0).trans rfl) (fun hHeld => ?_)
  clear hK K
  refine norm_ (a' := ?_) ?_ ?_
  rotate_left
  · show Act.put _ (some 79) _ = _
    simp only [Act.put, List.setIfInBounds_toArray, List.set_cons_zero, List.set_cons_succ, i64_w, i32_w]
    rfl
  refine pure_ (i := 8) (N := some 80) (v := ?_) (a' := ?_) #[true, true, true, true, true, true, true, true, true, false, false, false, false, false] rfl rfl (any_of rfl (by kernel_rfl)) (fun _ _ _ h => h) (Or.inl ⟨by rfl, ?_⟩) ?_ ?_
  rotate_left
  · intro w'
    go_simp
    with_reducible rfl
  rotate_left
  · simp only [Act.put, List.setIfInBounds_toArray, List.set_cons_zero, List.set_cons_succ, i64_w, i32_w]
    rfl
  refine one_ (i := 9) (N := some 81) #[true, true, true, true, true, true, true, true, true, true, false, false, false, false] rfl rfl (one_of rfl (by kernel_rfl)) (by decide) (fun K hK => ?_)
  refine value_ (w1 := ?_) (v := ?_) (by rfl) rfl ?_ ?_
  rotate_left 2
  · go_simp
    constructor
    · rfl
    · rfl
  refine hK.out _ _ ((blk_cell (blk_alloc BK6.out _) 0).trans rfl) (fun hHeld => ?_)
  clear hK K
  refine norm_ (a' := ?_) ?_ ?_
  rotate_left
  · show Act.put _ (some 81) _ = _
    simp only [Act.put, List.setIfInBounds_toArray, List.set_cons_zero, List.set_cons_succ, i64_w, i32_w]
    rfl
  refine one_ (i := 10) (N := some 82) #[true, true, true, true, true, true, true, true, true, true, true, false, false, false] rfl rfl (one_of rfl (by kernel_rfl)) (by decide) (fun K hK => ?_)
  refine Kd.N_append_step k30 (w0 := w) base (by rfl) (.tmp 76) (.tmp 81) 23 30 (.agg #[(.int .u8 0), (.int .i64 0), (.slice none 0 0), (.slice none 0 0), (.slice none 0 0)]) 88 rfl Try.underlying23 info30 rfl (by decide) (by omega) (.slice A1 0 c1) D1 (⟨1, n, [], [], pt⟩ : S30) [.int .u8 1, .int .i64 n, .slice none 0 0, .slice none 0 0, .slice A4_ pt.length c4_] (fun k => (okD k ∨ okI k) ∨ w.heap.size ≤ k) (fun k => w8.heap.size ≤ k) rfl rfl ?aP ?aQ (fun k hk => .inr (Nat.le_trans HK6.out.1 hk)) HD6.out HB6.out (Nat.le_trans hbase HK6.out.1) (by have := HL1.out; omega) ?_
  (case aP => exact k30_mkF _ _ (⟨1, n, [], [], pt⟩ : S30) (by simp) (Kd.F_nil _ _ _) (by simp) (Kd.F_nil _ _ _) (Kd.R_reads' VP.out).2.1 (Kd.F_mono (Kd.R_F VP.out) (fun k hk => hk.2.1)))
  (case aQ => exact fun k hk => ⟨.inr (Nat.le_trans HZ8.out hk), fun e_ => by have := HW.out k e_.symm; omega⟩)
  intro v5 w10 ho hb hg hat
  obtain ⟨A5, c5, rfl⟩ := Kd.N_slice ho
  replace BK6 := Aside0.mk (blk_grown BK6.out hg (fun e_ => HKP.out p (Kd.N_ok HD6.out p e_.symm) rfl))
  replace HK6 := Aside0.mk (Kept.of_grown hg HK6.out (fun k e_ => (Kd.N_ok HD6.out k e_).elim (fun h_ => .inl (h_.elim (fun h2_ => (H6.out k h2_).2.1) (fun h2_ => (H7.out k h2_).2.1))) .inr))
  replace HD6 := Aside0.mk ho
  replace HB6 := Aside0.mk hb
  clear ho hb hg hat
  refine hK.out _ _ ((blk_cell BK6.out 0).trans rfl) (fun hHeld => ?_)
  clear hK K
  refine norm_ (a' := ?_) ?_ ?_
  rotate_left
  · show Act.put _ (some 82) _ = _
    simp only [Act.put, List.setIfInBounds_toArray, List.set_cons_zero, List.set_cons_succ, i64_w, i32_w]
    rfl
  refine pure_ (i := 11) (N := some 83) (v := ?_) (a' := ?_) #[true, true, true, true, true, true, true, true, true, true, true, true, false, false] rfl rfl (any_of rfl (by kernel_rfl)) (fun _ _ _ h => h) (Or.inl ⟨by rfl, ?_⟩) ?_ ?_
  rotate_left
  · intro w'
    go_simp
    with_reducible rfl
  rotate_left
  · simp only [Act.put, List.setIfInBounds_toArray, List.set_cons_zero, List.set_cons_succ, i64_w, i32_w]
    rfl
  refine pure_ (i := 12) (N := some 84) (v := ?_) (a' := ?_) #[true, true, true, true, true, true, true, true, true, true, true, true, true, false] rfl rfl (any_of rfl (by kernel_rfl)) (fun _ _ _ h => h) (Or.inl ⟨by rfl, ?_⟩) ?_ ?_
  rotate_left
  · intro w'
    go_simp
    with_reducible rfl
  rotate_left
  · simp only [Act.put, List.setIfInBounds_toArray, List.set_cons_zero, List.set_cons_succ, i64_w, i32_w]
    rfl
  refine last_ (i := 13) (N := none) #[true, true, true, true, true, true, true, true, true, true, true, true, true, true] rfl rfl (one_of rfl (by kernel_rfl)) (by decide) (fun K hK => ?_)
  have e0 : w10.cell? ⟨p, 0, none⟩ = some (.slice A1 0 c1) := (blk_cell BK6.out 0).trans rfl
  have f0 := blk_frozen BK6.out 0
  refine skip_ (w1 := w10.setCell ⟨p, 0, none⟩ (.slice A5 (D1 ++ [(⟨1, n, [], [], pt⟩ : S30)]).length c5)) (by rfl) rfl ?_ ?_
  · go_simp
    try rfl
  refine hK.out _ _ ?_
  clear hK K
  refine done_ (done_of rfl (by kernel_rfl)) ?_
  go_wp2
  go_end0
  refine ⟨rfl, ⟨_, _, _, fun _ => False, blk_put BK6.out 0 _ rfl, h2, .inl H3.out, Kd.N_far HD6.out (p := ⟨p, 0, none⟩) HKP.out _, Kd.S_nil _ _ _ _ _, ?_, fun k hk => hk.elim⟩, HK6.out.setCell (p := ⟨p, 0, none⟩) (.inl H3.out) _, HB6.out.setCell (p := ⟨p, 0, none⟩) h2 _⟩
  exact fun k hk => ⟨hk.elim (fun h_ => h_.elim (fun h2_ => (H6.out k h2_).1) (fun h2_ => (H7.out k h2_).1)) (fun h_ => Nat.le_trans hbase h_), hk.elim (fun h_ => .inl (h_.elim (fun h2_ => (H6.out k h2_).2.1) (fun h2_ => (H7.out k h2_).2.1))) .inr, HKP.out k hk⟩

set_option maxHeartbeats 4000000 in
set_option maxRecDepth 100000 in
theorem retain_1 (p : Nat) (D I : List S30) (g : Int) (base : Nat) (ok : Nat → Prop) (n : Int) (Ap : Option Addr) (cp : Nat) (pt : List S42) (w : World) (hM : Mk w base ok p D I g) (hbase : base ≤ w.heap.size) (hC : ∀ w', Kept w w' ok → Below base w w' → Kd.C k42 w' Ap pt.length pt) (hcp : pt.length ≤ cp) (hn : 1 ≤ n) (hpl : pt.length ≤ 1000000) (hIl : I.length ≤ 1000000) (hDl : D.length ≤ 1000000) (D1 : List S30) (hD1 : D ++ gapP I g = D1) (m : Nat) (o : S30) (hL1 : D1.length = m + 1) (hm1 : m + 1 ≤ 3000000) (ho : D1[m]? = some o) (hk : o.f0 ≠ 1) :
    Calls Try.prog 20 #[.pointer (some ⟨p, 0, none⟩), .int .i64 n, .slice Ap pt.length cp] w fun e w' => e = .returned (.tuple #[]) ∧ MkPost w base ok p (D1 ++ [(⟨1, n, [], [], pt⟩ : S30)]) [] 0 w' := by
  obtain ⟨vD, vI, okD, okI, h1, h2, h3, h4, h5, h6, h7⟩ := hM.bound
  have BK := Aside0.mk h1
  have HP := Aside0.mk (blk_lt h1)
  have HD := Aside0.mk h4
  have HI := Aside0.mk h5
  have H6 : Aside0 (∀ k, okD k → base ≤ k ∧ ok k ∧ k ≠ p ∧ k < w.heap.size) := Aside0.mk (fun k hk => ⟨(h6 k hk).1, (h6 k hk).2.1.1, (h6 k hk).2.2, (h6 k hk).2.1.2⟩)
  have H7 : Aside0 (∀ k, okI k → base ≤ k ∧ ok k ∧ k ≠ p ∧ ¬ okD k ∧ k < w.heap.size) := Aside0.mk (fun k hk => ⟨(h7 k hk).1, (h7 k hk).2.1.1, (h7 k hk).2.2.1, (h7 k hk).2.2.2, (h7 k hk).2.1.2⟩)
  have H3 := Aside0.mk h3.1
  have HK := Aside0.mk (Kept.refl w ok)
  have HB := Aside0.mk (Below.refl base w)
  have HZ := Aside0.mk (Nat.le_refl w.heap.size)
  obtain ⟨Ai, ci, hvI⟩ := Kd.S_slice h5
  subst hvI
  have c0 : w.cell? ⟨p, 0, none⟩ = some vD := (blk_cell h1 0).trans rfl
  have hn1 : decide (n < 1) = false := decide_eq_false (by omega)
  have HD1 := Aside0.mk hD1
  have HL1 := Aside0.mk hL1
  clear hD1 hL1
  have HC := Aside0.mk hC
  have HP_ := Aside0.mk (hC w (Kept.refl _ _) (Below.refl _ _))
  clear h1 h3 h4 h5 h6 h7 hM hC
  go_enter Try.func20, Try.ntmps20
  go_wp2_with fail
  refine start_ (n := 11) (S := fun w' => w'.cell? ⟨p, 0, none⟩ = some vD) (ds := [10]) #[false, false, false, false, false, false, false, false, false, false, false] (by kernel_rfl) rfl rfl ((blk_cell (w := w.drew) BK.out 0).trans rfl) (fun hHeld => ?_)
  have hb := below_drew (Below.refl w.heap.size w)
  generalize w.drew = w2 at hb hHeld ⊢
  replace BK := Aside0.mk (blk_below BK.out hb)
  replace HD := Aside0.mk (Kd.N_below HD.out hb)
  replace HB := Aside0.mk (below_then HB.out (Nat.le_trans hbase HZ.out) hb)
  replace HK := Aside0.mk (HK.out.below hb)
  replace HZ := Aside0.mk (Nat.le_trans HZ.out hb.size)
  replace HI := Aside0.mk (Kd.S_below HI.out hb)
  replace HP_ := Aside0.mk (Kd.C_below HP_.out hb)
  clear hb
  refine pure_ (i := 0) (N := some 13) (v := ?_) (a' := ?_) #[true, false, false, false, false, false, false, false, false, false, false] rfl rfl (any_of rfl (by kernel_rfl)) (fun _ _ _ h => h) (Or.inl ⟨by rfl, ?_⟩) ?_ ?_
  rotate_left
  · intro w'
    go_simp
    with_reducible rfl
  rotate_left
  · simp only [Act.put, List.setIfInBounds_toArray, List.set_cons_zero, List.set_cons_succ, i64_w, i32_w]
    rfl
  refine pure_ (i := 1) (N := some 14) (v := ?_) (a' := ?_) #[true, true, false, false, false, false, false, false, false, false, false] rfl rfl (any_of rfl (by kernel_rfl)) (fun _ _ _ h => h) (Or.inl ⟨by rfl, ?_⟩) ?_ ?_
  rotate_left
  · intro w'
    go_simp
    with_reducible rfl
  rotate_left
  · simp only [Act.put, List.setIfInBounds_toArray, List.set_cons_zero, List.set_cons_succ, i64_w, i32_w]
    rfl
  refine pure_ (i := 2) (N := some 15) (v := ?_) (a' := ?_) #[true, true, true, false, false, false, false, false, false, false, false] rfl rfl (any_of rfl (by kernel_rfl)) (fun _ _ _ h => h) (Or.inl ⟨by rfl, ?_⟩) ?_ ?_
  rotate_left
  · intro w'
    go_simp
    with_reducible rfl
  rotate_left
  · simp only [Act.put, List.setIfInBounds_toArray, List.set_cons_zero, List.set_cons_succ, i64_w, i32_w]
    rfl
  refine pure_ (i := 3) (N := some 16) (v := ?_) (a' := ?_) #[true, true, true, true, false, false, false, false, false, false, false] rfl rfl (any_of rfl (by kernel_rfl)) (fun _ _ _ h => h) (Or.inl ⟨by rfl, ?_⟩) ?_ ?_
  rotate_left
  · intro w'
    go_simp
    with_reducible rfl
  rotate_left
  · simp only [Act.put, List.setIfInBounds_toArray, List.set_cons_zero, List.set_cons_succ, i64_w, i32_w]
    rfl
  refine pure_ (i := 5) (N := some 18) (v := ?_) (a' := ?_) #[true, true, true, true, false, true, false, false, false, false, false] rfl rfl (any_of rfl (by kernel_rfl)) (fun _ _ _ h => h) (Or.inl ⟨by rfl, ?_⟩) ?_ ?_
  rotate_left
  · intro w'
    go_simp
    with_reducible rfl
  rotate_left
  · simp only [Act.put, List.setIfInBounds_toArray, List.set_cons_zero, List.set_cons_succ, i64_w, i32_w]
    rfl
  refine take_ (i := 4) (N := some 17) (v := ?_) (a' := ?_) #[true, true, true, true, true, true, false, false, false, false, false] rfl rfl (take_of rfl (by kernel_rfl)) (fun _ _ _ h => h) (Or.inl ⟨by rfl, ?_⟩) hHeld ?_ ?_
  rotate_left
  · rintro w' s0
    go_simp
    with_reducible rfl
  rotate_left
  · simp only [Act.put, List.setIfInBounds_toArray, List.set_cons_zero, List.set_cons_succ, i64_w, i32_w]
    rfl
  refine one_ (i := 6) (N := some 19) #[true, true, true, true, true, true, true, false, false, false, false] rfl rfl (one_of rfl (by kernel_rfl)) (by decide) (fun K hK => ?_)
  refine goes_ Try.func35 (by kernel_rfl) rfl #[.pointer (some ⟨p, 0, none⟩)] (by rfl) rfl rfl (by (try simp only [List.map_toArray, List.map_cons, List.map_nil]); first | done | rfl) ?_
  refine (gap_calls p Ai ci I g okI w2 ((blk_cell BK.out 1).trans rfl) ((blk_cell BK.out 2).trans rfl) (Kd.S_V HI.out) hIl).mono ?_
  rintro e w3 ⟨vg, rfl, hN, hb⟩
  have HN := Aside0.mk hN
  have HZ2 := Aside0.mk HZ.out
  replace BK := Aside0.mk (blk_below BK.out hb)
  replace HD := Aside0.mk (Kd.N_below HD.out hb)
  replace HB := Aside0.mk (below_then HB.out (Nat.le_trans hbase HZ.out) hb)
  replace HK := Aside0.mk (HK.out.below hb)
  replace HZ := Aside0.mk (Nat.le_trans HZ.out hb.size)
  replace HP_ := Aside0.mk (Kd.C_below HP_.out hb)
  clear hN hb HI
  obtain ⟨Ag, cg, rfl⟩ := Kd.N_slice HN.out
  refine ⟨_, rfl, ?_⟩
  refine hK.out _ _ ((blk_cell BK.out 0).trans rfl) (fun hHeld => ?_)
  clear hK K
  refine norm_ (a' := ?_) ?_ ?_
  rotate_left
  · show Act.put _ (some 19) _ = _
    simp only [Act.put, List.setIfInBounds_toArray, List.set_cons_zero, List.set_cons_succ, i64_w, i32_w]
    rfl
  refine one_ (i := 7) (N := some 20) #[true, true, true, true, true, true, true, true, false, false, false] rfl rfl (one_of rfl (by kernel_rfl)) (by decide) (fun K hK => ?_)
  refine Kd.N_append_rows_step k30 (w0 := w) base (by rfl) (.tmp 17) (.tmp 19) 23 30 (.agg #[(.int .u8 0), (.int .i64 0), (.slice none 0 0), (.slice none 0 0), (.slice none 0 0)]) 88 rfl Try.underlying23 info30 rfl (by decide) (by omega) vD D (gapP I g) Ag (gapP I g).length cg (fun k => (okD k ∨ okI k) ∨ w.heap.size ≤ k) (fun k => okI k ∨ w2.heap.size ≤ k) rfl rfl (Kd.N_mono HD.out (fun k hk => .inl (.inl hk))) (Kd.N_F HN.out) ?aQ (fun k hk => .inr (Nat.le_trans HZ.out hk)) HB.out (Nat.le_trans hbase HZ.out) (by have := gapP_len I g; omega) ?_
  (case aQ => exact fun k hk => hk.elim (fun h_ => ⟨.inl (.inr h_), fun e_ => (H7.out k h_).2.2.2.1 (Kd.N_ok HD.out k e_.symm)⟩) (fun h_ => ⟨.inr (Nat.le_trans HZ2.out h_), fun e_ => by have := (H6.out k (Kd.N_ok HD.out k e_.symm)).2.2.2; have := HZ2.out; omega⟩))
  intro v1 w4 ho hb hg hat
  rw [HD1.out] at ho
  replace BK := Aside0.mk (blk_grown BK.out hg (fun e_ => (H6.out p (Kd.N_ok HD.out p e_.symm)).2.2.1 rfl))
  replace HK := Aside0.mk (Kept.of_grown hg HK.out (fun k e_ => .inl (H6.out k (Kd.N_ok HD.out k e_)).2.1))
  have hz4 := hg.size
  have HV := Aside0.mk (HC.out w4 HK.out hb)
  obtain ⟨A1, c1, rfl⟩ := Kd.N_slice ho
  rw [HL1.out] at ho ⊢
  replace HD := Aside0.mk ho
  replace HB := Aside0.mk hb
  clear ho hb hg hat HN
  refine hK.out _ _ ((blk_cell BK.out 0).trans rfl) (fun hHeld => ?_)
  clear hK K
  refine norm_ (a' := ?_) ?_ ?_
  rotate_left
  · show Act.put _ (some 20) _ = _
    simp only [Act.put, List.setIfInBounds_toArray, List.set_cons_zero, List.set_cons_succ, i64_w, i32_w]
    rfl
  refine pure_ (i := 8) (N := some 21) (v := ?_) (a' := ?_) #[true, true, true, true, true, true, true, true, true, false, false] rfl rfl (any_of rfl (by kernel_rfl)) (fun _ _ _ h => h) (Or.inl ⟨by rfl, ?_⟩) ?_ ?_
  rotate_left
  · intro w'
    go_simp
    with_reducible rfl
  rotate_left
  · simp only [Act.put, List.setIfInBounds_toArray, List.set_cons_zero, List.set_cons_succ, i64_w, i32_w]
    rfl
  refine pure_ (i := 9) (N := some 22) (v := ?_) (a' := ?_) #[true, true, true, true, true, true, true, true, true, true, false] rfl rfl (any_of rfl (by kernel_rfl)) (fun _ _ _ h => h) (Or.inl ⟨by rfl, ?_⟩) ?_ ?_
  rotate_left
  · intro w'
    go_simp
    with_reducible rfl
  rotate_left
  · simp only [Act.put, List.setIfInBounds_toArray, List.set_cons_zero, List.set_cons_succ, i64_w, i32_w]
    rfl
  refine last_ (i := 10) (N := none) #[true, true, true, true, true, true, true, true, true, true, true] rfl rfl (one_of rfl (by kernel_rfl)) (by decide) (fun K hK => ?_)
  have e0 : w4.cell? ⟨p, 0, none⟩ = some vD := (blk_cell BK.out 0).trans rfl
  have f0 := blk_frozen BK.out 0
  refine skip_ (w1 := w4.setCell ⟨p, 0, none⟩ (.slice A1 (m + 1) c1)) (by rfl) rfl ?_ ?_
  · go_simp
    try rfl
  refine hK.out _ _ ?_
  clear hK K
  refine done_ (done_of rfl (by kernel_rfl)) ?_
  clear c0 hHeld
  have BK5 := Aside0.mk (blk_put BK.out 0 (.slice A1 (m + 1) c1) rfl)
  have hkp : ∀ k, ((okD k ∨ okI k) ∨ w.heap.size ≤ k) → k ≠ p := fun k hk e_ => hk.elim (fun h_ => h_.elim (fun h2_ => (H6.out k h2_).2.2.1 e_) (fun h2_ => (H7.out k h2_).2.2.1 e_)) (fun h_ => by have := HP.out; omega)
  have HD5 := Aside0.mk (Kd.N_far HD.out (p := ⟨p, 0, none⟩) hkp (.slice A1 (m + 1) c1))
  have HK5 := Aside0.mk (HK.out.setCell (p := ⟨p, 0, none⟩) (.inl H3.out) (.slice A1 (m + 1) c1))
  have HB5 := Aside0.mk (HB.out.setCell (p := ⟨p, 0, none⟩) h2 (.slice A1 (m + 1) c1))
  have HKP := Aside0.mk hkp
  clear BK HD HK HB
  generalize w4.setCell ⟨p, 0, none⟩ (.slice A1 (m + 1) c1) = w5 at BK5 HD5 HK5 HB5 ⊢
  have e1 : w5.cell? ⟨p, 1, none⟩ = some (.slice Ai I.length ci) := (blk_cell BK5.out 1).trans rfl
  have e2 : w5.cell? ⟨p, 2, none⟩ = some (.int .i64 g) := (blk_cell BK5.out 2).trans rfl
  have f1 := blk_frozen BK5.out 1
  have f2 := blk_frozen BK5.out 2
  clear hkp
  go_upto_region 3 with (fail)
  have BK6 := Aside0.mk (blk_put (blk_put BK5.out 1 (.slice none 0 0) rfl) 2 (.int .i64 0) rfl)
  have HD6 := Aside0.mk (Kd.N_far (Kd.N_far HD5.out (p := ⟨p, 1, none⟩) HKP.out (.slice none 0 0)) (p := ⟨p, 2, none⟩) HKP.out (.int .i64 0))
  have HK6 := Aside0.mk ((HK5.out.setCell (p := ⟨p, 1, none⟩) (.inl H3.out) (.slice none 0 0)).setCell (p := ⟨p, 2, none⟩) (.inl H3.out) (.int .i64 0))
  have HB6 := Aside0.mk ((HB5.out.setCell (p := ⟨p, 1, none⟩) h2 (.slice none 0 0)).setCell (p := ⟨p, 2, none⟩) h2 (.int .i64 0))
  clear BK5 HD5 HK5 HB5 e1 e2 f1 f2
  generalize (w5.setCell ⟨p, 1, none⟩ (.slice none 0 0)).setCell ⟨p, 2, none⟩ (.int .i64 0) = w6 at BK6 HD6 HK6 HB6 ⊢
  obtain ⟨gD, capD, hvD, _, hgl, cellsD, hcD⟩ := Kd.N_form HD6.out (by have := HL1.out; omega)
  injection hvD with hA1 hlen_ hc1
  clear hlen_
  subst hA1
  subst hc1
  obtain ⟨ce, _, hFK, hcc, hfr⟩ := Kd.N_elem HD6.out z30 (m : Int) (by omega) (by omega)
  have hgetD : D1.getD (m : Int).toNat z30 = o := by rw [Int.toNat_natCast, List.getD_eq_getElem?_getD, ho]; rfl
  rw [hgetD] at hFK
  obtain ⟨A2, c2, A3, c3, A4, c4, rfl, _, _, _, _, hl4, hF4⟩ := k30_openF hFK
  have e0 : w6.cell? ⟨gD, m * 5, none⟩ = some (.int .u8 o.f0) := hcc 0 _ rfl
  have e1 : w6.cell? ⟨gD, m * 5 + 1, none⟩ = some (.int .i64 o.f1) := hcc 1 _ rfl
  have e4 : w6.cell? ⟨gD, m * 5 + 4, none⟩ = some (.slice A4 o.f4.length c4) := hcc 4 _ rfl
  have cp0 : w6.cell? ⟨p, 0, none⟩ = some (.slice (some ⟨gD, 0, none⟩) (m + 1) c1) := (blk_cell BK6.out 0).trans rfl
  have E1 := Aside0.mk e1
  have HF4 := Aside0.mk (Kd.F_now hF4)
  have HL4 := Aside0.mk hl4
  have HO_ := Aside0.mk ho
  have HKD := Aside0.mk hcD
  clear hFK hcc hfr hgetD hF4 hl4 hcD ho
  have hkb : (o.f0 == 1) = false := beq_eq_false_iff_ne.2 hk
  go_wp2_with fail
  clear cp0 e0 e1 e4
  refine start_ (n := 14) (S := fun w' => w'.cell? ⟨p, 0, none⟩ = some (.slice (some ⟨gD, 0, none⟩) (m + 1) c1)) (ds := [13]) #[false, false, false, false, false, false, false, false, false, false, false, false, false, false] (by kernel_rfl) rfl rfl ((blk_cell (w := w6.drew) BK6.out 0).trans rfl) (fun hHeld => ?_)
  have hb := below_drew (Below.refl w6.heap.size w6)
  generalize w6.drew = w8 at hb hHeld ⊢
  replace BK6 := Aside0.mk (blk_below BK6.out hb)
  replace HD6 := Aside0.mk (Kd.N_below HD6.out hb)
  replace HB6 := Aside0.mk (below_then HB6.out (Nat.le_trans hbase HK6.out.1) hb)
  replace HK6 := Aside0.mk (HK6.out.below hb)
  clear hb
  have HPt := Aside0.mk (HC.out w8 HK6.out HB6.out)
  refine pure_ (i := 0) (N := some 72) (v := ?_) (a' := ?_) #[true, false, false, false, false, false, false, false, false, false, false, false, false, false] rfl rfl (any_of rfl (by kernel_rfl)) (fun _ _ _ h => h) (Or.inl ⟨by rfl, ?_⟩) ?_ ?_
  rotate_left
  · intro w'
    go_simp
    with_reducible rfl
  rotate_left
  · simp only [Act.put, List.setIfInBounds_toArray, List.set_cons_zero, List.set_cons_succ, i64_w, i32_w]
    rfl
  refine pure_ (i := 1) (N := some 73) (v := ?_) (a' := ?_) #[true, true, false, false, false, false, false, false, false, false, false, false, false, false] rfl rfl (any_of rfl (by kernel_rfl)) (fun _ _ _ h => h) (Or.inl ⟨by rfl, ?_⟩) ?_ ?_
  rotate_left
  · intro w'
    go_simp
    with_reducible rfl
  rotate_left
  · simp only [Act.put, List.setIfInBounds_toArray, List.set_cons_zero, List.set_cons_succ, i64_w, i32_w]
    rfl
  refine pure_ (i := 2) (N := some 74) (v := ?_) (a' := ?_) #[true, true, true, false, false, false, false, false, false, false, false, false, false, false] rfl rfl (any_of rfl (by kernel_rfl)) (fun _ _ _ h => h) (Or.inl ⟨by rfl, ?_⟩) ?_ ?_
  rotate_left
  · intro w'
    go_simp
    with_reducible rfl
  rotate_left
  · simp only [Act.put, List.setIfInBounds_toArray, List.set_cons_zero, List.set_cons_succ, i64_w, i32_w]
    rfl
  refine pure_ (i := 3) (N := some 75) (v := ?_) (a' := ?_) #[true, true, true, true, false, false, false, false, false, false, false, false, false, false] rfl rfl (any_of rfl (by kernel_rfl)) (fun _ _ _ h => h) (Or.inl ⟨by rfl, ?_⟩) ?_ ?_
  rotate_left
  · intro w'
    go_simp
    with_reducible rfl
  rotate_left
  · simp only [Act.put, List.setIfInBounds_toArray, List.set_cons_zero, List.set_cons_succ, i64_w, i32_w]
    rfl
  refine pure_ (i := 5) (N := some 77) (v := ?_) (a' := ?_) #[true, true, true, true, false, true, false, false, false, false, false, false, false, false] rfl rfl (any_of rfl (by kernel_rfl)) (fun _ _ _ h => h) (Or.inl ⟨by rfl, ?_⟩) ?_ ?_
  rotate_left
  · intro w'
    go_simp
    with_reducible rfl
  rotate_left
  · simp only [Act.put, List.setIfInBounds_toArray, List.set_cons_zero, List.set_cons_succ, i64_w, i32_w]
    rfl
  refine pure_ (i := 6) (N := some 78) (v := ?_) (a' := ?_) #[true, true, true, true, false, true, true, false, false, false, false, false, false, false] rfl rfl (any_of rfl (by kernel_rfl)) (fun _ _ _ h => h) (Or.inl ⟨by rfl, ?_⟩) ?_ ?_
  rotate_left
  · intro w'
    go_simp
    with_reducible rfl
  rotate_left
  · simp only [Act.put, List.setIfInBounds_toArray, List.set_cons_zero, List.set_cons_succ, i64_w, i32_w]
    rfl
  refine take_ (i := 4) (N := some 76) (v := ?_) (a' := ?_) #[true, true, true, true, true, true, true, false, false, false, false, false, false, false] rfl rfl (take_of rfl (by kernel_rfl)) (fun _ _ _ h => h) (Or.inl ⟨by rfl, ?_⟩) hHeld ?_ ?_
  rotate_left
  · rintro w' s0
    go_simp
    with_reducible rfl
  rotate_left
  · simp only [Act.put, List.setIfInBounds_toArray, List.set_cons_zero, List.set_cons_succ, i64_w, i32_w]
    rfl
  refine one_ (i := 7) (N := some 79) #[true, true, true, true, true, true, true, true, false, false, false, false, false, false] rfl rfl (one_of rfl (by kernel_rfl)) (by decide) (fun K hK => ?_)
  refine goes_ Try.func36 (by kernel_rfl) rfl #[.slice Ap pt.length cp] (by rfl) rfl rfl (by (try simp only [List.map_toArray, List.map_cons, List.map_nil]); first | done | rfl) ?_
  refine (patch_Copy.calls Ap cp pt pt w8 HPt.out hcp (copyC_eq pt hpl)).mono ?_
  rintro e w9 ⟨vp, rfl, hv, hb⟩
  obtain ⟨A4_, c4_, rfl⟩ := Kd.R_slice hv
  have VP := Aside0.mk (Kd.R_bound hv)
  have HW := Aside0.mk (fun k (e_ : Value.ownBlock (.slice (some ⟨gD, 0, none⟩) (m + 1) c1) = some k) => Kd.N_lt HD6.out k e_)
  have HZ8 := Aside0.mk HK6.out.1
  replace BK6 := Aside0.mk (blk_below BK6.out hb)
  replace HD6 := Aside0.mk (Kd.N_below HD6.out hb)
  replace HB6 := Aside0.mk (below_then HB6.out (Nat.le_trans hbase HK6.out.1) hb)
  replace HK6 := Aside0.mk (HK6.out.below hb)
  clear hv hb HPt
  refine ⟨_, rfl, ?_⟩
  refine hK.out _ _ ((blk_cell BK6.out 0).trans rfl) (fun hHeld => ?_)
  clear hK K
  refine norm_ (a' := ?_) ?_ ?_
  rotate_left
  · show Act.put _ (some 79) _ = _
    simp only [Act.put, List.setIfInBounds_toArray, List.set_cons_zero, List.set_cons_succ, i64_w, i32_w]
    rfl
  refine pure_ (i := 8) (N := some 80) (v := ?_) (a' := ?_) #[true, true, true, true, true, true, true, true, true, false, false, false, false, false] rfl rfl (any_of rfl (by kernel_rfl)) (fun _ _ _ h => h) (Or.inl ⟨by rfl, ?_⟩) ?_ ?_
  rotate_left
  · intro w'
    go_simp
    with_reducible rfl
  rotate_left
  · simp only [Act.put, List.setIfInBounds_toArray, List.set_cons_zero, List.set_cons_succ, i64_w, i32_w]
    rfl
  refine one_ (i := 9) (N := some 81) #[true, true, true, true, true, true, true, true, true, true, false, false, false, false] rfl rfl (one_of rfl (by kernel_rfl)) (by decide) (fun K hK => ?_)
  refine value_ (w1 := ?_) (v := ?_) (by rfl) rfl ?_ ?_
  rotate_left 2
  · go_simp
    constructor
    · rfl
    · rfl
  refine hK.out _ _ ((blk_cell (blk_alloc BK6.out _) 0).trans rfl) (fun hHeld => ?_)
  clear hK K
  refine norm_ (a' := ?_) ?_ ?_
  rotate_left
  · show Act.put _ (some 81) _ = _
    simp only [Act.put, List.setIfInBounds_toArray, List.set_cons_zero, List.set_cons_succ, i64_w, i32_w]
    rfl
  refine one_ (i := 10) (N := some 82) #[true, true, true, true, true, true, true, true, true, true, true, false, false, false] rfl rfl (one_of rfl (by kernel_rfl)) (by decide) (fun K hK => ?_)
  refine Kd.N_append_step k30 (w0 := w) base (by rfl) (.tmp 76) (.tmp 81) 23 30 (.agg #[(.int .u8 0), (.int .i64 0), (.slice none 0 0), (.slice none 0 0), (.slice none 0 0)]) 88 rfl Try.underlying23 info30 rfl (by decide) (by omega) (.slice (some ⟨gD, 0, none⟩) (m + 1) c1) D1 (⟨1, n, [], [], pt⟩ : S30) [.int .u8 1, .int .i64 n, .slice none 0 0, .slice none 0 0, .slice A4_ pt.length c4_] (fun k => (okD k ∨ okI k) ∨ w.heap.size ≤ k) (fun k => w8.heap.size ≤ k) rfl rfl ?aP ?aQ (fun k hk => .inr (Nat.le_trans HK6.out.1 hk)) HD6.out HB6.out (Nat.le_trans hbase HK6.out.1) (by have := HL1.out; omega) ?_
  (case aP => exact k30_mkF _ _ (⟨1, n, [], [], pt⟩ : S30) (by simp) (Kd.F_nil _ _ _) (by simp) (Kd.F_nil _ _ _) (Kd.R_reads' VP.out).2.1 (Kd.F_mono (Kd.R_F VP.out) (fun k hk => hk.2.1)))
  (case aQ => exact fun k hk => ⟨.inr (Nat.le_trans HZ8.out hk), fun e_ => by have := HW.out k e_.symm; omega⟩)
  intro v5 w10 ho hb hg hat
  obtain ⟨A5, c5, rfl⟩ := Kd.N_slice ho
  replace BK6 := Aside0.mk (blk_grown BK6.out hg (fun e_ => HKP.out p (Kd.N_ok HD6.out p e_.symm) rfl))
  replace HK6 := Aside0.mk (Kept.of_grown hg HK6.out (fun k e_ => (Kd.N_ok HD6.out k e_).elim (fun h_ => .inl (h_.elim (fun h2_ => (H6.out k h2_).2.1) (fun h2_ => (H7.out k h2_).2.1))) .inr))
  replace HD6 := Aside0.mk ho
  replace HB6 := Aside0.mk hb
  clear ho hb hg hat
  refine hK.out _ _ ((blk_cell BK6.out 0).trans rfl) (fun hHeld => ?_)
  clear hK K
  refine norm_ (a' := ?_) ?_ ?_
  rotate_left
  · show Act.put _ (some 82) _ = _
    simp only [Act.put, List.setIfInBounds_toArray, List.set_cons_zero, List.set_cons_succ, i64_w, i32_w]
    rfl
  refine pure_ (i := 11) (N := some 83) (v := ?_) (a' := ?_) #[true, true, true, true, true, true, true, true, true, true, true, true, false, false] rfl rfl (any_of rfl (by kernel_rfl)) (fun _ _ _ h => h) (Or.inl ⟨by rfl, ?_⟩) ?_ ?_
  rotate_left
  · intro w'
    go_simp
    with_reducible rfl
  rotate_left
  · simp only [Act.put, List.setIfInBounds_toArray, List.set_cons_zero, List.set_cons_succ, i64_w, i32_w]
    rfl
  refine pure_ (i := 12) (N := some 84) (v := ?_) (a' := ?_) #[true, true, true, true, true, true, true, true, true, true, true, true, true, false] rfl rfl (any_of rfl (by kernel_rfl)) (fun _ _ _ h => h) (Or.inl ⟨by rfl, ?_⟩) ?_ ?_
  rotate_left
  · intro w'
    go_simp
    with_reducible rfl
  rotate_left
  · simp only [Act.put, List.setIfInBounds_toArray, List.set_cons_zero, List.set_cons_succ, i64_w, i32_w]
    rfl
  refine last_ (i := 13) (N := none) #[true, true, true, true, true, true, true, true, true, true, true, true, true, true] rfl rfl (one_of rfl (by kernel_rfl)) (by decide) (fun K hK => ?_)
  have e0 : w10.cell? ⟨p, 0, none⟩ = some (.slice (some ⟨gD, 0, none⟩) (m + 1) c1) := (blk_cell BK6.out 0).trans rfl
  have f0 := blk_frozen BK6.out 0
  refine skip_ (w1 := w10.setCell ⟨p, 0, none⟩ (.slice A5 (D1 ++ [(⟨1, n, [], [], pt⟩ : S30)]).length c5)) (by rfl) rfl ?_ ?_
  · go_simp
    try rfl
  refine hK.out _ _ ?_
  clear hK K
  refine done_ (done_of rfl (by kernel_rfl)) ?_
  go_wp2
  go_end0
  refine ⟨rfl, ⟨_, _, _, fun _ => False, blk_put BK6.out 0 _ rfl, h2, .inl H3.out, Kd.N_far HD6.out (p := ⟨p, 0, none⟩) HKP.out _, Kd.S_nil _ _ _ _ _, ?_, fun k hk => hk.elim⟩, HK6.out.setCell (p := ⟨p, 0, none⟩) (.inl H3.out) _, HB6.out.setCell (p := ⟨p, 0, none⟩) h2 _⟩
  exact fun k hk => ⟨hk.elim (fun h_ => h_.elim (fun h2_ => (H6.out k h2_).1) (fun h2_ => (H7.out k h2_).1)) (fun h_ => Nat.le_trans hbase h_), hk.elim (fun h_ => .inl (h_.elim (fun h2_ => (H6.out k h2_).2.1) (fun h2_ => (H7.out k h2_).2.1))) .inr, HKP.out k hk⟩

set_option maxHeartbeats 4000000 in
set_option maxRecDepth 100000 in
theorem retain_2 (p : Nat) (D I : List S30) (g : Int) (base : Nat) (ok : Nat → Prop) (n : Int) (Ap : Option Addr) (cp : Nat) (pt : List S42) (w : World) (hM : Mk w base ok p D I g) (hbase : base ≤ w.heap.size) (hC : ∀ w', Kept w w' ok → Below base w w' → Kd.C k42 w' Ap pt.length pt) (hcp : pt.length ≤ cp) (hn : 1 ≤ n) (hpl : pt.length ≤ 1000000) (hIl : I.length ≤ 1000000) (hDl : D.length ≤ 1000000) (D1 : List S30) (hD1 : D ++ gapP I g = D1) (m : Nat) (o : S30) (hL1 : D1.length = m + 1) (hm1 : m + 1 ≤ 3000000) (ho : D1[m]? = some o) (hk : o.f0 = 1) (hq : keyC o.f4 ≠ keyC pt) :
    Calls Try.prog 20 #[.pointer (some ⟨p, 0, none⟩), .int .i64 n, .slice Ap pt.length cp] w fun e w' => e = .returned (.tuple #[]) ∧ MkPost w base ok p (D1 ++ [(⟨1, n, [], [], pt⟩ : S30)]) [] 0 w' := by
  obtain ⟨vD, vI, okD, okI, h1, h2, h3, h4, h5, h6, h7⟩ := hM.bound
  have BK := Aside0.mk h1
  have HP := Aside0.mk (blk_lt h1)
  have HD := Aside0.mk h4
  have HI := Aside0.mk h5
  have H6 : Aside0 (∀ k, okD k → base ≤ k ∧ ok k ∧ k ≠ p ∧ k < w.heap.size) := Aside0.mk (fun k hk => ⟨(h6 k hk).1, (h6 k hk).2.1.1, (h6 k hk).2.2, (h6 k hk).2.1.2⟩)
  have H7 : Aside0 (∀ k, okI k → base ≤ k ∧ ok k ∧ k ≠ p ∧ ¬ okD k ∧ k < w.heap.size) := Aside0.mk (fun k hk => ⟨(h7 k hk).1, (h7 k hk).2.1.1, (h7 k hk).2.2.1, (h7 k hk).2.2.2, (h7 k hk).2.1.2⟩)
  have H3 := Aside0.mk h3.1
  have HK := Aside0.mk (Kept.refl w ok)
  have HB := Aside0.mk (Below.refl base w)
  have HZ := Aside0.mk (Nat.le_refl w.heap.size)
  obtain ⟨Ai, ci, hvI⟩ := Kd.S_slice h5
  subst hvI
  have c0 : w.cell? ⟨p, 0, none⟩ = some vD := (blk_cell h1 0).trans rfl
  have hn1 : decide (n < 1) = false := decide_eq_false (by omega)
  have HD1 := Aside0.mk hD1
  have HL1 := Aside0.mk hL1
  clear hD1 hL1
  have HC := Aside0.mk hC
  have HP_ := Aside0.mk (hC w (Kept.refl _ _) (Below.refl _ _))
  clear h1 h3 h4 h5 h6 h7 hM hC
  go_enter Try.func20, Try.ntmps20
  go_wp2_with fail
  refine start_ (n := 11) (S := fun w' => w'.cell? ⟨p, 0, none⟩ = some vD) (ds := [10]) #[false, false, false, false, false, false, false, false, false, false, false] (by kernel_rfl) rfl rfl ((blk_cell (w := w.drew) BK.out 0).trans rfl) (fun hHeld => ?_)
  have hb := below_drew (Below.refl w.heap.size w)
  generalize w.drew = w2 at hb hHeld ⊢
  replace BK := Aside0.mk (blk_below BK.out hb)
  replace HD := Aside0.mk (Kd.N_below HD.out hb)
  replace HB := Aside0.mk (below_then HB.out (Nat.le_trans hbase HZ.out) hb)
  replace HK := Aside0.mk (HK.out.below hb)
  replace HZ := Aside0.mk (Nat.le_trans HZ.out hb.size)
  replace HI := Aside0.mk (Kd.S_below HI.out hb)
  replace HP_ := Aside0.mk (Kd.C_below HP_.out hb)
  clear hb
  refine pure_ (i := 0) (N := some 13) (v := ?_) (a' := ?_) #[true, false, false, false, false, false, false, false, false, false, false] rfl rfl (any_of rfl (by kernel_rfl)) (fun _ _ _ h => h) (Or.inl ⟨by rfl, ?_⟩) ?_ ?_
  rotate_left
  · intro w'
    go_simp
    with_reducible rfl
  rotate_left
  · simp only [Act.put, List.setIfInBounds_toArray, List.set_cons_zero, List.set_cons_succ, i64_w, i32_w]
    rfl
  refine pure_ (i := 1) (N := some 14) (v := ?_) (a' := ?_) #[true, true, false, false, false, false, false, false, false, false, false] rfl rfl (any_of rfl (by kernel_rfl)) (fun _ _ _ h => h) (Or.inl ⟨by rfl, ?_⟩) ?_ ?_
  rotate_left
  · intro w'
    go_simp
    with_reducible rfl
  rotate_left
  · simp only [Act.put, List.setIfInBounds_toArray, List.set_cons_zero, List.set_cons_succ, i64_w, i32_w]
    rfl
  refine pure_ (i := 2) (N := some 15) (v := ?_) (a' := ?_) #[true, true, true, false, false, false, false, false, false, false, false] rfl rfl (any_of rfl (by kernel_rfl)) (fun _ _ _ h => h) (Or.inl ⟨by rfl, ?_⟩) ?_ ?_
  rotate_left
  · intro w'
    go_simp
    with_reducible rfl
  rotate_left
  · simp only [Act.put, List.setIfInBounds_toArray, List.set_cons_zero, List.set_cons_succ, i64_w, i32_w]
    rfl
  refine pure_ (i := 3) (N := some 16) (v := ?_) (a' := ?_) #[true, true, true, true, false, false, false, false, false, false, false] rfl rfl (any_of rfl (by kernel_rfl)) (fun _ _ _ h => h) (Or.inl ⟨by rfl, ?_⟩) ?_ ?_
  rotate_left
  · intro w'
    go_simp
    with_reducible rfl
  rotate_left
  · simp only [Act.put, List.setIfInBounds_toArray, List.set_cons_zero, List.set_cons_succ, i64_w, i32_w]
    rfl
  refine pure_ (i := 5) (N := some 18) (v := ?_) (a' := ?_) #[true, true, true, true, false, true, false, false, false, false, false] rfl rfl (any_of rfl (by kernel_rfl)) (fun _ _ _ h => h) (Or.inl ⟨by rfl, ?_⟩) ?_ ?_
  rotate_left
  · intro w'
    go_simp
    with_reducible rfl
  rotate_left
  · simp only [Act.put, List.setIfInBounds_toArray, List.set_cons_zero, List.set_cons_succ, i64_w, i32_w]
    rfl
  refine take_ (i := 4) (N := some 17) (v := ?_) (a' := ?_) #[true, true, true, true, true, true, false, false, false, false, false] rfl rfl (take_of rfl (by kernel_rfl)) (fun _ _ _ h => h) (Or.inl ⟨by rfl, ?_⟩) hHeld ?_ ?_
  rotate_left
  · rintro w' s0
    go_simp
    with_reducible rfl
  rotate_left
  · simp only [Act.put, List.setIfInBounds_toArray, List.set_cons_zero, List.set_cons_succ, i64_w, i32_w]
    rfl
  refine one_ (i := 6) (N := some 19) #[true, true, true, true, true, true, true, false, false, false, false] rfl rfl (one_of rfl (by kernel_rfl)) (by decide) (fun K hK => ?_)
  refine goes_ Try.func35 (by kernel_rfl) rfl #[.pointer (some ⟨p, 0, none⟩)] (by rfl) rfl rfl (by (try simp only [List.map_toArray, List.map_cons, List.map_nil]); first | done | rfl) ?_
  refine (gap_calls p Ai ci I g okI w2 ((blk_cell BK.out 1).trans rfl) ((blk_cell BK.out 2).trans rfl) (Kd.S_V HI.out) hIl).mono ?_
  rintro e w3 ⟨vg, rfl, hN, hb⟩
  have HN := Aside0.mk hN
  have HZ2 := Aside0.mk HZ.out
  replace BK := Aside0.mk (blk_below BK.out hb)
  replace HD := Aside0.mk (Kd.N_below HD.out hb)
  replace HB := Aside0.mk (below_then HB.out (Nat.le_trans hbase HZ.out) hb)
  replace HK := Aside0.mk (HK.out.below hb)
  replace HZ := Aside0.mk (Nat.le_trans HZ.out hb.size)
  replace HP_ := Aside0.mk (Kd.C_below HP_.out hb)
  clear hN hb HI
  obtain ⟨Ag, cg, rfl⟩ := Kd.N_slice HN.out
  refine ⟨_, rfl, ?_⟩
  refine hK.out _ _ ((blk_cell BK.out 0).trans rfl) (fun hHeld => ?_)
  clear hK K
  refine norm_ (a' := ?_) ?_ ?_
  rotate_left
  · show Act.put _ (some 19) _ = _
    simp only [Act.put, List.setIfInBounds_toArray, List.set_cons_zero, List.set_cons_succ, i64_w, i32_w]
    rfl
  refine one_ (i := 7) (N := some 20) #[true, true, true, true, true, true, true, true, false, false, false] rfl rfl (one_of rfl (by kernel_rfl)) (by decide) (fun K hK => ?_)
  refine Kd.N_append_rows_step k30 (w0 := w) base (by rfl) (.tmp 17) (.tmp 19) 23 30 (.agg #[(.int .u8 0), (.int .i64 0), (.slice none 0 0), (.slice none 0 0), (.slice none 0 0)]) 88 rfl Try.underlying23 info30 rfl (by decide) (by omega) vD D (gapP I g) Ag (gapP I g).length cg (fun k => (okD k ∨ okI k) ∨ w.heap.size ≤ k) (fun k => okI k ∨ w2.heap.size ≤ k) rfl rfl (Kd.N_mono HD.out (fun k hk => .inl (.inl hk))) (Kd.N_F HN.out) ?aQ (fun k hk => .inr (Nat.le_trans HZ.out hk)) HB.out (Nat.le_trans hbase HZ.out) (by have := gapP_len I g; omega) ?_
  (case aQ => exact fun k hk => hk.elim (fun h_ => ⟨.inl (.inr h_), fun e_ => (H7.out k h_).2.2.2.1 (Kd.N_ok HD.out k e_.symm)⟩) (fun h_ => ⟨.inr (Nat.le_trans HZ2.out h_), fun e_ => by have := (H6.out k (Kd.N_ok HD.out k e_.symm)).2.2.2; have := HZ2.out; omega⟩))
  intro v1 w4 ho hb hg hat
  rw [HD1.out] at ho
  replace BK := Aside0.mk (blk_grown BK.out hg (fun e_ => (H6.out p (Kd.N_ok HD.out p e_.symm)).2.2.1 rfl))
  replace HK := Aside0.mk (Kept.of_grown hg HK.out (fun k e_ => .inl (H6.out k (Kd.N_ok HD.out k e_)).2.1))
  have hz4 := hg.size
  have HV := Aside0.mk (HC.out w4 HK.out hb)
  obtain ⟨A1, c1, rfl⟩ := Kd.N_slice ho
  rw [HL1.out] at ho ⊢
  replace HD := Aside0.mk ho
  replace HB := Aside0.mk hb
  clear ho hb hg hat HN
  refine hK.out _ _ ((blk_cell BK.out 0).trans rfl) (fun hHeld => ?_)
  clear hK K
  refine norm_ (a' := ?_) ?_ ?_
  rotate_left
  · show Act.put _ (some 20) _ = _
    simp only [Act.put, List.setIfInBounds_toArray, List.set_cons_zero, List.set_cons_succ, i64_w, i32_w]
    rfl
  refine pure_ (i := 8) (N := some 21) (v := ?_) (a' := ?_) #[true, true, true, true, true, true, true, true, true, false, false] rfl rfl (any_of rfl (by kernel_rfl)) (fun _ _ _ h => h) (Or.inl ⟨by rfl, ?_⟩) ?_ ?_
  rotate_left
  · intro w'
    go_simp
    with_reducible rfl
  rotate_left
  · simp only [Act.put, List.setIfInBounds_toArray, List.set_cons_zero, List.set_cons_succ, i64_w, i32_w]
    rfl
  refine pure_ (i := 9) (N := some 22) (v := ?_) (a' := ?_) #[true, true, true, true, true, true, true, true, true, true, false] rfl rfl (any_of rfl (by kernel_rfl)) (fun _ _ _ h => h) (Or.inl ⟨by rfl, ?_⟩) ?_ ?_
  rotate_left
  · intro w'
    go_simp
    with_reducible rfl
  rotate_left
  · simp only [Act.put, List.setIfInBounds_toArray, List.set_cons_zero, List.set_cons_succ, i64_w, i32_w]
    rfl
  refine last_ (i := 10) (N := none) #[true, true, true, true, true, true, true, true, true, true, true] rfl rfl (one_of rfl (by kernel_rfl)) (by decide) (fun K hK => ?_)
  have e0 : w4.cell? ⟨p, 0, none⟩ = some vD := (blk_cell BK.out 0).trans rfl
  have f0 := blk_frozen BK.out 0
  refine skip_ (w1 := w4.setCell ⟨p, 0, none⟩ (.slice A1 (m + 1) c1)) (by rfl) rfl ?_ ?_
  · go_simp
    try rfl
  refine hK.out _ _ ?_
  clear hK K
  refine done_ (done_of rfl (by kernel_rfl)) ?_
  clear c0 hHeld
  have BK5 := Aside0.mk (blk_put BK.out 0 (.slice A1 (m + 1) c1) rfl)
  have hkp : ∀ k, ((okD k ∨ okI k) ∨ w.heap.size ≤ k) → k ≠ p := fun k hk e_ => hk.elim (fun h_ => h_.elim (fun h2_ => (H6.out k h2_).2.2.1 e_) (fun h2_ => (H7.out k h2_).2.2.1 e_)) (fun h_ => by have := HP.out; omega)
  have HD5 := Aside0.mk (Kd.N_far HD.out (p := ⟨p, 0, none⟩) hkp (.slice A1 (m + 1) c1))
  have HK5 := Aside0.mk (HK.out.setCell (p := ⟨p, 0, none⟩) (.inl H3.out) (.slice A1 (m + 1) c1))
  have HB5 := Aside0.mk (HB.out.setCell (p := ⟨p, 0, none⟩) h2 (.slice A1 (m + 1) c1))
  have HKP := Aside0.mk hkp
  clear BK HD HK HB
  generalize w4.setCell ⟨p, 0, none⟩ (.slice A1 (m + 1) c1) = w5 at BK5 HD5 HK5 HB5 ⊢
  have e1 : w5.cell? ⟨p, 1, none⟩ = some (.slice Ai I.length ci) := (blk_cell BK5.out 1).trans rfl
  have e2 : w5.cell? ⟨p, 2, none⟩ = some (.int .i64 g) := (blk_cell BK5.out 2).trans rfl
  have f1 := blk_frozen BK5.out 1
  have f2 := blk_frozen BK5.out 2
  clear hkp
  go_upto_region 3 with (fail)
  have BK6 := Aside0.mk (blk_put (blk_put BK5.out 1 (.slice none 0 0) rfl) 2 (.int .i64 0) rfl)
  have HD6 := Aside0.mk (Kd.N_far (Kd.N_far HD5.out (p := ⟨p, 1, none⟩) HKP.out (.slice none 0 0)) (p := ⟨p, 2, none⟩) HKP.out (.int .i64 0))
  have HK6 := Aside0.mk ((HK5.out.setCell (p := ⟨p, 1, none⟩) (.inl H3.out) (.slice none 0 0)).setCell (p := ⟨p, 2, none⟩) (.inl H3.out) (.int .i64 0))
  have HB6 := Aside0.mk ((HB5.out.setCell (p := ⟨p, 1, none⟩) h2 (.slice none 0 0)).setCell (p := ⟨p, 2, none⟩) h2 (.int .i64 0))
  clear BK5 HD5 HK5 HB5 e1 e2 f1 f2
  generalize (w5.setCell ⟨p, 1, none⟩ (.slice none 0 0)).setCell ⟨p, 2, none⟩ (.int .i64 0) = w6 at BK6 HD6 HK6 HB6 ⊢
  obtain ⟨gD, capD, hvD, _, hgl, cellsD, hcD⟩ := Kd.N_form HD6.out (by have := HL1.out; omega)
  injection hvD with hA1 hlen_ hc1
  clear hlen_
  subst hA1
  subst hc1
  obtain ⟨ce, _, hFK, hcc, hfr⟩ := Kd.N_elem HD6.out z30 (m : Int) (by omega) (by omega)
  have hgetD : D1.getD (m : Int).toNat z30 = o := by rw [Int.toNat_natCast, List.getD_eq_getElem?_getD, ho]; rfl
  rw [hgetD] at hFK
  obtain ⟨A2, c2, A3, c3, A4, c4, rfl, _, _, _, _, hl4, hF4⟩ := k30_openF hFK
  have e0 : w6.cell? ⟨gD, m * 5, none⟩ = some (.int .u8 o.f0) := hcc 0 _ rfl
  have e1 : w6.cell? ⟨gD, m * 5 + 1, none⟩ = some (.int .i64 o.f1) := hcc 1 _ rfl
  have e4 : w6.cell? ⟨gD, m * 5 + 4, none⟩ = some (.slice A4 o.f4.length c4) := hcc 4 _ rfl
  have cp0 : w6.cell? ⟨p, 0, none⟩ = some (.slice (some ⟨gD, 0, none⟩) (m + 1) c1) := (blk_cell BK6.out 0).trans rfl
  have E1 := Aside0.mk e1
  have HF4 := Aside0.mk (Kd.F_now hF4)
  have HL4 := Aside0.mk hl4
  have HO_ := Aside0.mk ho
  have HKD := Aside0.mk hcD
  clear hFK hcc hfr hgetD hF4 hl4 hcD ho
  have hkb : (o.f0 == 1) = true := beq_iff_eq.2 hk
  have HQ := Aside0.mk hq
  clear hq
  go_wp2_with fail
  go_at_call 30
  refine (equalC_calls A4 c4 o.f4 Ap cp pt w6 HF4.out HL4.out (HC.out w6 HK6.out HB6.out) hcp).mono ?_
  rintro e w7 ⟨he, hb⟩
  rw [eqB_false.2 HQ.out] at he
  subst he
  replace BK6 := Aside0.mk (blk_below BK6.out hb)
  replace HD6 := Aside0.mk (Kd.N_below HD6.out hb)
  replace HB6 := Aside0.mk (below_then HB6.out (Nat.le_trans hbase HK6.out.1) hb)
  replace HK6 := Aside0.mk (HK6.out.below hb)
  clear hb cp0 e0 e1 e4
  go_wp2_with fail
  refine start_ (n := 14) (S := fun w' => w'.cell? ⟨p, 0, none⟩ = some (.slice (some ⟨gD, 0, none⟩) (m + 1) c1)) (ds := [13]) #[false, false, false, false, false, false, false, false, false, false, false, false, false, false] (by kernel_rfl) rfl rfl ((blk_cell (w := w7.drew) BK6.out 0).trans rfl) (fun hHeld => ?_)
  have hb := below_drew (Below.refl w7.heap.size w7)
  generalize w7.drew = w8 at hb hHeld ⊢
  replace BK6 := Aside0.mk (blk_below BK6.out hb)
  replace HD6 := Aside0.mk (Kd.N_below HD6.out hb)
  replace HB6 := Aside0.mk (below_then HB6.out (Nat.le_trans hbase HK6.out.1) hb)
  replace HK6 := Aside0.mk (HK6.out.below hb)
  clear hb
  have HPt := Aside0.mk (HC.out w8 HK6.out HB6.out)
  refine pure_ (i := 0) (N := some 72) (v := ?_) (a' := ?_) #[true, false, false, false, false, false, false, false, false, false, false, false, false, false] rfl rfl (any_of rfl (by kernel_rfl)) (fun _ _ _ h => h) (Or.inl ⟨by rfl, ?_⟩) ?_ ?_
  rotate_left
  · intro w'
    go_simp
    with_reducible rfl
  rotate_left
  · simp only [Act.put, List.setIfInBounds_toArray, List.set_cons_zero, List.set_cons_succ, i64_w, i32_w]
    rfl
  refine pure_ (i := 1) (N := some 73) (v := ?_) (a' := ?_) #[true, true, false, false, false, false, false, false, false, false, false, false, false, false] rfl rfl (any_of rfl (by kernel_rfl)) (fun _ _ _ h => h) (Or.inl ⟨by rfl, ?_⟩) ?_ ?_
  rotate_left
  · intro w'
    go_simp
    with_reducible rfl
  rotate_left
  · simp only [Act.put, List.setIfInBounds_toArray, List.set_cons_zero, List.set_cons_succ, i64_w, i32_w]
    rfl
  refine pure_ (i := 2) (N := some 74) (v := ?_) (a' := ?_) #[true, true, true, false, false, false, false, false, false, false, false, false, false, false] rfl rfl (any_of rfl (by kernel_rfl)) (fun _ _ _ h => h) (Or.inl ⟨by rfl, ?_⟩) ?_ ?_
  rotate_left
  · intro w'
    go_simp
    with_reducible rfl
  rotate_left
  · simp only [Act.put, List.setIfInBounds_toArray, List.set_cons_zero, List.set_cons_succ, i64_w, i32_w]
    rfl
  refine pure_ (i := 3) (N := some 75) (v := ?_) (a' := ?_) #[true, true, true, true, false, false, false, false, false, false, false, false, false, false] rfl rfl (any_of rfl (by kernel_rfl)) (fun _ _ _ h => h) (Or.inl ⟨by rfl, ?_⟩) ?_ ?_
  rotate_left
  · intro w'
    go_simp
    with_reducible rfl
  rotate_left
  · simp only [Act.put, List.setIfInBounds_toArray, List.set_cons_zero, List.set_cons_succ, i64_w, i32_w]
    rfl
  refine pure_ (i := 5) (N := some 77) (v := ?_) (a' := ?_) #[true, true, true, true, false, true, false, false, false, false, false, false, false, false] rfl rfl (any_of rfl (by kernel_rfl)) (fun _ _ _ h => h) (Or.inl ⟨by rfl, ?_⟩) ?_ ?_
  rotate_left
  · intro w'
    go_simp
    with_reducible rfl
  rotate_left
  · simp only [Act.put, List.setIfInBounds_toArray, List.set_cons_zero, List.set_cons_succ, i64_w, i32_w]
    rfl
  refine pure_ (i := 6) (N := some 78) (v := ?_) (a' := ?_) #[true, true, true, true, false, true, true, false, false, false, false, false, false, false] rfl rfl (any_of rfl (by kernel_rfl)) (fun _ _ _ h => h) (Or.inl ⟨by rfl, ?_⟩) ?_ ?_
  rotate_left
  · intro w'
    go_simp
    with_reducible rfl
  rotate_left
  · simp only [Act.put, List.setIfInBounds_toArray, List.set_cons_zero, List.set_cons_succ, i64_w, i32_w]
    rfl
  refine take_ (i := 4) (N := some 76) (v := ?_) (a' := ?_) #[true, true, true, true, true, true, true, false, false, false, false, false, false, false] rfl rfl (take_of rfl (by kernel_rfl)) (fun _ _ _ h => h) (Or.inl ⟨by rfl, ?_⟩) hHeld ?_ ?_
  rotate_left
  · rintro w' s0
    go_simp
    with_reducible rfl
  rotate_left
  · simp only [Act.put, List.setIfInBounds_toArray, List.set_cons_zero, List.set_cons_succ, i64_w, i32_w]
    rfl
  refine one_ (i := 7) (N := some 79) #[true, true, true, true, true, true, true, true, false, false, false, false, false, false] rfl rfl (one_of rfl (by kernel_rfl)) (by decide) (fun K hK => ?_)
  refine goes_ Try.func36 (by kernel_rfl) rfl #[.slice Ap pt.length cp] (by rfl) rfl rfl (by (try simp only [List.map_toArray, List.map_cons, List.map_nil]); first | done | rfl) ?_
  refine (patch_Copy.calls Ap cp pt pt w8 HPt.out hcp (copyC_eq pt hpl)).mono ?_
  rintro e w9 ⟨vp, rfl, hv, hb⟩
  obtain ⟨A4_, c4_, rfl⟩ := Kd.R_slice hv
  have VP := Aside0.mk (Kd.R_bound hv)
  have HW := Aside0.mk (fun k (e_ : Value.ownBlock (.slice (some ⟨gD, 0, none⟩) (m + 1) c1) = some k) => Kd.N_lt HD6.out k e_)
  have HZ8 := Aside0.mk HK6.out.1
  replace BK6 := Aside0.mk (blk_below BK6.out hb)
  replace HD6 := Aside0.mk (Kd.N_below HD6.out hb)
  replace HB6 := Aside0.mk (below_then HB6.out (Nat.le_trans hbase HK6.out.1) hb)
  replace HK6 := Aside0.mk (HK6.out.below hb)
  clear hv hb HPt
  refine ⟨_, rfl, ?_⟩
  refine hK.out _ _ ((blk_cell BK6.out 0).trans rfl) (fun hHeld => ?_)
  clear hK K
  refine norm_ (a' := ?_) ?_ ?_
  rotate_left
  · show Act.put _ (some 79) _ = _
    simp only [Act.put, List.setIfInBounds_toArray, List.set_cons_zero, List.set_cons_succ, i64_w, i32_w]
    rfl
  refine pure_ (i := 8) (N := some 80) (v := ?_) (a' := ?_) #[true, true, true, true, true, true, true, true, true, false, false, false, false, false] rfl rfl (any_of rfl (by kernel_rfl)) (fun _ _ _ h => h) (Or.inl ⟨by rfl, ?_⟩) ?_ ?_
  rotate_left
  · intro w'
    go_simp
    with_reducible rfl
  rotate_left
  · simp only [Act.put, List.setIfInBounds_toArray, List.set_cons_zero, List.set_cons_succ, i64_w, i32_w]
    rfl
  refine one_ (i := 9) (N := some 81) #[true, true, true, true, true, true, true, true, true, true, false, false, false, false] rfl rfl (one_of rfl (by kernel_rfl)) (by decide) (fun K hK => ?_)
  refine value_ (w1 := ?_) (v := ?_) (by rfl) rfl ?_ ?_
  rotate_left 2
  · go_simp
    constructor
    · rfl
    · rfl
  refine hK.out _ _ ((blk_cell (blk_alloc BK6.out _) 0).trans rfl) (fun hHeld => ?_)
  clear hK K
  refine norm_ (a' := ?_) ?_ ?_
  rotate_left
  · show Act.put _ (some 81) _ = _
    simp only [Act.put, List.setIfInBounds_toArray, List.set_cons_zero, List.set_cons_succ, i64_w, i32_w]
    rfl
  refine one_ (i := 10) (N := some 82) #[true, true, true, true, true, true, true, true, true, true, true, false, false, false] rfl rfl (one_of rfl (by kernel_rfl)) (by decide) (fun K hK => ?_)
  refine Kd.N_append_step k30 (w0 := w) base (by rfl) (.tmp 76) (.tmp 81) 23 30 (.agg #[(.int .u8 0), (.int .i64 0), (.slice none 0 0), (.slice none 0 0), (.slice none 0 0)]) 88 rfl Try.underlying23 info30 rfl (by decide) (by omega) (.slice (some ⟨gD, 0, none⟩) (m + 1) c1) D1 (⟨1, n, [], [], pt⟩ : S30) [.int .u8 1, .int .i64 n, .slice none 0 0, .slice none 0 0, .slice A4_ pt.length c4_] (fun k => (okD k ∨ okI k) ∨ w.heap.size ≤ k) (fun k => w8.heap.size ≤ k) rfl rfl ?aP ?aQ (fun k hk => .inr (Nat.le_trans HK6.out.1 hk)) HD6.out HB6.out (Nat.le_trans hbase HK6.out.1) (by have := HL1.out; omega) ?_
  (case aP => exact k30_mkF _ _ (⟨1, n, [], [], pt⟩ : S30) (by simp) (Kd.F_nil _ _ _) (by simp) (Kd.F_nil _ _ _) (Kd.R_reads' VP.out).2.1 (Kd.F_mono (Kd.R_F VP.out) (fun k hk => hk.2.1)))
  (case aQ => exact fun k hk => ⟨.inr (Nat.le_trans HZ8.out hk), fun e_ => by have := HW.out k e_.symm; omega⟩)
  intro v5 w10 ho hb hg hat
  obtain ⟨A5, c5, rfl⟩ := Kd.N_slice ho
  replace BK6 := Aside0.mk (blk_grown BK6.out hg (fun e_ => HKP.out p (Kd.N_ok HD6.out p e_.symm) rfl))
  replace HK6 := Aside0.mk (Kept.of_grown hg HK6.out (fun k e_ => (Kd.N_ok HD6.out k e_).elim (fun h_ => .inl (h_.elim (fun h2_ => (H6.out k h2_).2.1) (fun h2_ => (H7.out k h2_).2.1))) .inr))
  replace HD6 := Aside0.mk ho
  replace HB6 := Aside0.mk hb
  clear ho hb hg hat
  refine hK.out _ _ ((blk_cell BK6.out 0).trans rfl) (fun hHeld => ?_)
  clear hK K
  refine norm_ (a' := ?_) ?_ ?_
  rotate_left
  · show Act.put _ (some 82) _ = _
    simp only [Act.put, List.setIfInBounds_toArray, List.set_cons_zero, List.set_cons_succ, i64_w, i32_w]
    rfl
  refine pure_ (i := 11) (N := some 83) (v := ?_) (a' := ?_) #[true, true, true, true, true, true, true, true, true, true, true, true, false, false] rfl rfl (any_of rfl (by kernel_rfl)) (fun _ _ _ h => h) (Or.inl ⟨by rfl, ?_⟩) ?_ ?_
  rotate_left
  · intro w'
    go_simp
    with_reducible rfl
  rotate_left
  · simp only [Act.put, List.setIfInBounds_toArray, List.set_cons_zero, List.set_cons_succ, i64_w, i32_w]
    rfl
  refine pure_ (i := 12) (N := some 84) (v := ?_) (a' := ?_) #[true, true, true, true, true, true, true, true, true, true, true, true, true, false] rfl rfl (any_of rfl (by kernel_rfl)) (fun _ _ _ h => h) (Or.inl ⟨by rfl, ?_⟩) ?_ ?_
  rotate_left
  · intro w'
    go_simp
    with_reducible rfl
  rotate_left
  · simp only [Act.put, List.setIfInBounds_toArray, List.set_cons_zero, List.set_cons_succ, i64_w, i32_w]
    rfl
  refine last_ (i := 13) (N := none) #[true, true, true, true, true, true, true, true, true, true, true, true, true, true] rfl rfl (one_of rfl (by kernel_rfl)) (by decide) (fun K hK => ?_)
  have e0 : w10.cell? ⟨p, 0, none⟩ = some (.slice (some ⟨gD, 0, none⟩) (m + 1) c1) := (blk_cell BK6.out 0).trans rfl
  have f0 := blk_frozen BK6.out 0
  refine skip_ (w1 := w10.setCell ⟨p, 0, none⟩ (.slice A5 (D1 ++ [(⟨1, n, [], [], pt⟩ : S30)]).length c5)) (by rfl) rfl ?_ ?_
  · go_simp
    try rfl
  refine hK.out _ _ ?_
  clear hK K
  refine done_ (done_of rfl (by kernel_rfl)) ?_
  go_wp2
  go_end0
  refine ⟨rfl, ⟨_, _, _, fun _ => False, blk_put BK6.out 0 _ rfl, h2, .inl H3.out, Kd.N_far HD6.out (p := ⟨p, 0, none⟩) HKP.out _, Kd.S_nil _ _ _ _ _, ?_, fun k hk => hk.elim⟩, HK6.out.setCell (p := ⟨p, 0, none⟩) (.inl H3.out) _, HB6.out.setCell (p := ⟨p, 0, none⟩) h2 _⟩
  exact fun k hk => ⟨hk.elim (fun h_ => h_.elim (fun h2_ => (H6.out k h2_).1) (fun h2_ => (H7.out k h2_).1)) (fun h_ => Nat.le_trans hbase h_), hk.elim (fun h_ => .inl (h_.elim (fun h2_ => (H6.out k h2_).2.1) (fun h2_ => (H7.out k h2_).2.1))) .inr, HKP.out k hk⟩

set_option maxHeartbeats 4000000 in
set_option maxRecDepth 100000 in
theorem retain_3 (p : Nat) (D I : List S30) (g : Int) (base : Nat) (ok : Nat → Prop) (n : Int) (Ap : Option Addr) (cp : Nat) (pt : List S42) (w : World) (hM : Mk w base ok p D I g) (hbase : base ≤ w.heap.size) (hC : ∀ w', Kept w w' ok → Below base w w' → Kd.C k42 w' Ap pt.length pt) (hcp : pt.length ≤ cp) (hn : 1 ≤ n) (hpl : pt.length ≤ 1000000) (hIl : I.length ≤ 1000000) (hDl : D.length ≤ 1000000) (D1 : List S30) (hD1 : D ++ gapP I g = D1) (m : Nat) (o : S30) (hL1 : D1.length = m + 1) (hm1 : m + 1 ≤ 3000000) (ho : D1[m]? = some o) (hk : o.f0 = 1) (hq : keyC o.f4 = keyC pt) :
    Calls Try.prog 20 #[.pointer (some ⟨p, 0, none⟩), .int .i64 n, .slice Ap pt.length cp] w fun e w' => e = .returned (.tuple #[]) ∧ MkPost w base ok p (D1.set (m : Int).toNat ⟨o.f0, wrap64 (o.f1 + n), o.f2, o.f3, o.f4⟩) [] 0 w' := by
  obtain ⟨vD, vI, okD, okI, h1, h2, h3, h4, h5, h6, h7⟩ := hM.bound
  have BK := Aside0.mk h1
  have HP := Aside0.mk (blk_lt h1)
  have HD := Aside0.mk h4
  have HI := Aside0.mk h5
  have H6 : Aside0 (∀ k, okD k → base ≤ k ∧ ok k ∧ k ≠ p ∧ k < w.heap.size) := Aside0.mk (fun k hk => ⟨(h6 k hk).1, (h6 k hk).2.1.1, (h6 k hk).2.2, (h6 k hk).2.1.2⟩)
  have H7 : Aside0 (∀ k, okI k → base ≤ k ∧ ok k ∧ k ≠ p ∧ ¬ okD k ∧ k < w.heap.size) := Aside0.mk (fun k hk => ⟨(h7 k hk).1, (h7 k hk).2.1.1, (h7 k hk).2.2.1, (h7 k hk).2.2.2, (h7 k hk).2.1.2⟩)
  have H3 := Aside0.mk h3.1
  have HK := Aside0.mk (Kept.refl w ok)
  have HB := Aside0.mk (Below.refl base w)
  have HZ := Aside0.mk (Nat.le_refl w.heap.size)
  obtain ⟨Ai, ci, hvI⟩ := Kd.S_slice h5
  subst hvI
  have c0 : w.cell? ⟨p, 0, none⟩ = some vD := (blk_cell h1 0).trans rfl
  have hn1 : decide (n < 1) = false := decide_eq_false (by omega)
  have HD1 := Aside0.mk hD1
  have HL1 := Aside0.mk hL1
  clear hD1 hL1
  have HC := Aside0.mk hC
  have HP_ := Aside0.mk (hC w (Kept.refl _ _) (Below.refl _ _))
  clear h1 h3 h4 h5 h6 h7 hM hC
  go_enter Try.func20, Try.ntmps20
  go_wp2_with fail
  refine start_ (n := 11) (S := fun w' => w'.cell? ⟨p, 0, none⟩ = some vD) (ds := [10]) #[false, false, false, false, false, false, false, false, false, false, false] (by kernel_rfl) rfl rfl ((blk_cell (w := w.drew) BK.out 0).trans rfl) (fun hHeld => ?_)
  have hb := below_drew (Below.refl w.heap.size w)
  generalize w.drew = w2 at hb hHeld ⊢
  replace BK := Aside0.mk (blk_below BK.out hb)
  replace HD := Aside0.mk (Kd.N_below HD.out hb)
  replace HB := Aside0.mk (below_then HB.out (Nat.le_trans hbase HZ.out) hb)
  replace HK := Aside0.mk (HK.out.below hb)
  replace HZ := Aside0.mk (Nat.le_trans HZ.out hb.size)
  replace HI := Aside0.mk (Kd.S_below HI.out hb)
  replace HP_ := Aside0.mk (Kd.C_below HP_.out hb)
  clear hb
  refine pure_ (i := 0) (N := some 13) (v := ?_) (a' := ?_) #[true, false, false, false, false, false, false, false, false, false, false] rfl rfl (any_of rfl (by kernel_rfl)) (fun _ _ _ h => h) (Or.inl ⟨by rfl, ?_⟩) ?_ ?_
  rotate_left
  · intro w'
    go_simp
    with_reducible rfl
  rotate_left
  · simp only [Act.put, List.setIfInBounds_toArray, List.set_cons_zero, List.set_cons_succ, i64_w, i32_w]
    rfl
  refine pure_ (i := 1) (N := some 14) (v := ?_) (a' := ?_) #[true, true, false, false, false, false, false, false, false, false, false] rfl rfl (any_of rfl (by kernel_rfl)) (fun _ _ _ h => h) (Or.inl ⟨by rfl, ?_⟩) ?_ ?_
  rotate_left
  · intro w'
    go_simp
    with_reducible rfl
  rotate_left
  · simp only [Act.put, List.setIfInBounds_toArray, List.set_cons_zero, List.set_cons_succ, i64_w, i32_w]
    rfl
  refine pure_ (i := 2) (N := some 15) (v := ?_) (a' := ?_) #[true, true, true, false, false, false, false, false, false, false, false] rfl rfl (any_of rfl (by kernel_rfl)) (fun _ _ _ h => h) (Or.inl ⟨by rfl, ?_⟩) ?_ ?_
  rotate_left
  · intro w'
    go_simp
    with_reducible rfl
  rotate_left
  · simp only [Act.put, List.setIfInBounds_toArray, List.set_cons_zero, List.set_cons_succ, i64_w, i32_w]
    rfl
  refine pure_ (i := 3) (N := some 16) (v := ?_) (a' := ?_) #[true, true, true, true, false, false, false, false, false, false, false] rfl rfl (any_of rfl (by kernel_rfl)) (fun _ _ _ h => h) (Or.inl ⟨by rfl, ?_⟩) ?_ ?_
  rotate_left
  · intro w'
    go_simp
    with_reducible rfl
  rotate_left
  · simp only [Act.put, List.setIfInBounds_toArray, List.set_cons_zero, List.set_cons_succ, i64_w, i32_w]
    rfl
  refine pure_ (i := 5) (N := some 18) (v := ?_) (a' := ?_) #[true, true, true, true, false, true, false, false, false, false, false] rfl rfl (any_of rfl (by kernel_rfl)) (fun _ _ _ h => h) (Or.inl ⟨by rfl, ?_⟩) ?_ ?_
  rotate_left
  · intro w'
    go_simp
    with_reducible rfl
  rotate_left
  · simp only [Act.put, List.setIfInBounds_toArray, List.set_cons_zero, List.set_cons_succ, i64_w, i32_w]
    rfl
  refine take_ (i := 4) (N := some 17) (v := ?_) (a' := ?_) #[true, true, true, true, true, true, false, false, false, false, false] rfl rfl (take_of rfl (by kernel_rfl)) (fun _ _ _ h => h) (Or.inl ⟨by rfl, ?_⟩) hHeld ?_ ?_
  rotate_left
  · rintro w' s0
    go_simp
    with_reducible rfl
  rotate_left
  · simp only [Act.put, List.setIfInBounds_toArray, List.set_cons_zero, List.set_cons_succ, i64_w, i32_w]
    rfl
  refine one_ (i := 6) (N := some 19) #[true, true, true, true, true, true, true, false, false, false, false] rfl rfl (one_of rfl (by kernel_rfl)) (by decide) (fun K hK => ?_)
  refine goes_ Try.func35 (by kernel_rfl) rfl #[.pointer (some ⟨p, 0, none⟩)] (by rfl) rfl rfl (by (try simp only [List.map_toArray, List.map_cons, List.map_nil]); first | done | rfl) ?_
  refine (gap_calls p Ai ci I g okI w2 ((blk_cell BK.out 1).trans rfl) ((blk_cell BK.out 2).trans rfl) (Kd.S_V HI.out) hIl).mono ?_
  rintro e w3 ⟨vg, rfl, hN, hb⟩
  have HN := Aside0.mk hN
  have HZ2 := Aside0.mk HZ.out
  replace BK := Aside0.mk (blk_below BK.out hb)
  replace HD := Aside0.mk (Kd.N_below HD.out hb)
  replace HB := Aside0.mk (below_then HB.out (Nat.le_trans hbase HZ.out) hb)
  replace HK := Aside0.mk (HK.out.below hb)
  replace HZ := Aside0.mk (Nat.le_trans HZ.out hb.size)
  replace HP_ := Aside0.mk (Kd.C_below HP_.out hb)
  clear hN hb HI
  obtain ⟨Ag, cg, rfl⟩ := Kd.N_slice HN.out
  refine ⟨_, rfl, ?_⟩
  refine hK.out _ _ ((blk_cell BK.out 0).trans rfl) (fun hHeld => ?_)
  clear hK K
  refine norm_ (a' := ?_) ?_ ?_
  rotate_left
  · show Act.put _ (some 19) _ = _
    simp only [Act.put, List.setIfInBounds_toArray, List.set_cons_zero, List.set_cons_succ, i64_w, i32_w]
    rfl
  refine one_ (i := 7) (N := some 20) #[true, true, true, true, true, true, true, true, false, false, false] rfl rfl (one_of rfl (by kernel_rfl)) (by decide) (fun K hK => ?_)
  refine Kd.N_append_rows_step k30 (w0 := w) base (by rfl) (.tmp 17) (.tmp 19) 23 30 (.agg #[(.int .u8 0), (.int .i64 0), (.slice none 0 0), (.slice none 0 0), (.slice none 0 0)]) 88 rfl Try.underlying23 info30 rfl (by decide) (by omega) vD D (gapP I g) Ag (gapP I g).length cg (fun k => (okD k ∨ okI k) ∨ w.heap.size ≤ k) (fun k => okI k ∨ w2.heap.size ≤ k) rfl rfl (Kd.N_mono HD.out (fun k hk => .inl (.inl hk))) (Kd.N_F HN.out) ?aQ (fun k hk => .inr (Nat.le_trans HZ.out hk)) HB.out (Nat.le_trans hbase HZ.out) (by have := gapP_len I g; omega) ?_
  (case aQ => exact fun k hk => hk.elim (fun h_ => ⟨.inl (.inr h_), fun e_ => (H7.out k h_).2.2.2.1 (Kd.N_ok HD.out k e_.symm)⟩) (fun h_ => ⟨.inr (Nat.le_trans HZ2.out h_), fun e_ => by have := (H6.out k (Kd.N_ok HD.out k e_.symm)).2.2.2; have := HZ2.out; omega⟩))
  intro v1 w4 ho hb hg hat
  rw [HD1.out] at ho
  replace BK := Aside0.mk (blk_grown BK.out hg (fun e_ => (H6.out p (Kd.N_ok HD.out p e_.symm)).2.2.1 rfl))
  replace HK := Aside0.mk (Kept.of_grown hg HK.out (fun k e_ => .inl (H6.out k (Kd.N_ok HD.out k e_)).2.1))
  have hz4 := hg.size
  have HV := Aside0.mk (HC.out w4 HK.out hb)
  obtain ⟨A1, c1, rfl⟩ := Kd.N_slice ho
  rw [HL1.out] at ho ⊢
  replace HD := Aside0.mk ho
  replace HB := Aside0.mk hb
  clear ho hb hg hat HN
  refine hK.out _ _ ((blk_cell BK.out 0).trans rfl) (fun hHeld => ?_)
  clear hK K
  refine norm_ (a' := ?_) ?_ ?_
  rotate_left
  · show Act.put _ (some 20) _ = _
    simp only [Act.put, List.setIfInBounds_toArray, List.set_cons_zero, List.set_cons_succ, i64_w, i32_w]
    rfl
  refine pure_ (i := 8) (N := some 21) (v := ?_) (a' := ?_) #[true, true, true, true, true, true, true, true, true, false, false] rfl rfl (any_of rfl (by kernel_rfl)) (fun _ _ _ h => h) (Or.inl ⟨by rfl, ?_⟩) ?_ ?_
  rotate_left
  · intro w'
    go_simp
    with_reducible rfl
  rotate_left
  · simp only [Act.put, List.setIfInBounds_toArray, List.set_cons_zero, List.set_cons_succ, i64_w, i32_w]
    rfl
  refine pure_ (i := 9) (N := some 22) (v := ?_) (a' := ?_) #[true, true, true, true, true, true, true, true, true, true, false] rfl rfl (any_of rfl (by kernel_rfl)) (fun _ _ _ h => h) (Or.inl ⟨by rfl, ?_⟩) ?_ ?_
  rotate_left
  · intro w'
    go_simp
    with_reducible rfl
  rotate_left
  · simp only [Act.put, List.setIfInBounds_toArray, List.set_cons_zero, List.set_cons_succ, i64_w, i32_w]
    rfl
  refine last_ (i := 10) (N := none) #[true, true, true, true, true, true, true, true, true, true, true] rfl rfl (one_of rfl (by kernel_rfl)) (by decide) (fun K hK => ?_)
  have e0 : w4.cell? ⟨p, 0, none⟩ = some vD := (blk_cell BK.out 0).trans rfl
  have f0 := blk_frozen BK.out 0
  refine skip_ (w1 := w4.setCell ⟨p, 0, none⟩ (.slice A1 (m + 1) c1)) (by rfl) rfl ?_ ?_
  · go_simp
    try rfl
  refine hK.out _ _ ?_
  clear hK K
  refine done_ (done_of rfl (by kernel_rfl)) ?_
  clear c0 hHeld
  have BK5 := Aside0.mk (blk_put BK.out 0 (.slice A1 (m + 1) c1) rfl)
  have hkp : ∀ k, ((okD k ∨ okI k) ∨ w.heap.size ≤ k) → k ≠ p := fun k hk e_ => hk.elim (fun h_ => h_.elim (fun h2_ => (H6.out k h2_).2.2.1 e_) (fun h2_ => (H7.out k h2_).2.2.1 e_)) (fun h_ => by have := HP.out; omega)
  have HD5 := Aside0.mk (Kd.N_far HD.out (p := ⟨p, 0, none⟩) hkp (.slice A1 (m + 1) c1))
  have HK5 := Aside0.mk (HK.out.setCell (p := ⟨p, 0, none⟩) (.inl H3.out) (.slice A1 (m + 1) c1))
  have HB5 := Aside0.mk (HB.out.setCell (p := ⟨p, 0, none⟩) h2 (.slice A1 (m + 1) c1))
  have HKP := Aside0.mk hkp
  clear BK HD HK HB
  generalize w4.setCell ⟨p, 0, none⟩ (.slice A1 (m + 1) c1) = w5 at BK5 HD5 HK5 HB5 ⊢
  have e1 : w5.cell? ⟨p, 1, none⟩ = some (.slice Ai I.length ci) := (blk_cell BK5.out 1).trans rfl
  have e2 : w5.cell? ⟨p, 2, none⟩ = some (.int .i64 g) := (blk_cell BK5.out 2).trans rfl
  have f1 := blk_frozen BK5.out 1
  have f2 := blk_frozen BK5.out 2
  clear hkp
  go_upto_region 3 with (fail)
  have BK6 := Aside0.mk (blk_put (blk_put BK5.out 1 (.slice none 0 0) rfl) 2 (.int .i64 0) rfl)
  have HD6 := Aside0.mk (Kd.N_far (Kd.N_far HD5.out (p := ⟨p, 1, none⟩) HKP.out (.slice none 0 0)) (p := ⟨p, 2, none⟩) HKP.out (.int .i64 0))
  have HK6 := Aside0.mk ((HK5.out.setCell (p := ⟨p, 1, none⟩) (.inl H3.out) (.slice none 0 0)).setCell (p := ⟨p, 2, none⟩) (.inl H3.out) (.int .i64 0))
  have HB6 := Aside0.mk ((HB5.out.setCell (p := ⟨p, 1, none⟩) h2 (.slice none 0 0)).setCell (p := ⟨p, 2, none⟩) h2 (.int .i64 0))
  clear BK5 HD5 HK5 HB5 e1 e2 f1 f2
  generalize (w5.setCell ⟨p, 1, none⟩ (.slice none 0 0)).setCell ⟨p, 2, none⟩ (.int .i64 0) = w6 at BK6 HD6 HK6 HB6 ⊢
  obtain ⟨gD, capD, hvD, _, hgl, cellsD, hcD⟩ := Kd.N_form HD6.out (by have := HL1.out; omega)
  injection hvD with hA1 hlen_ hc1
  clear hlen_
  subst hA1
  subst hc1
  obtain ⟨ce, _, hFK, hcc, hfr⟩ := Kd.N_elem HD6.out z30 (m : Int) (by omega) (by omega)
  have hgetD : D1.getD (m : Int).toNat z30 = o := by rw [Int.toNat_natCast, List.getD_eq_getElem?_getD, ho]; rfl
  rw [hgetD] at hFK
  obtain ⟨A2, c2, A3, c3, A4, c4, rfl, _, _, _, _, hl4, hF4⟩ := k30_openF hFK
  have e0 : w6.cell? ⟨gD, m * 5, none⟩ = some (.int .u8 o.f0) := hcc 0 _ rfl
  have e1 : w6.cell? ⟨gD, m * 5 + 1, none⟩ = some (.int .i64 o.f1) := hcc 1 _ rfl
  have e4 : w6.cell? ⟨gD, m * 5 + 4, none⟩ = some (.slice A4 o.f4.length c4) := hcc 4 _ rfl
  have cp0 : w6.cell? ⟨p, 0, none⟩ = some (.slice (some ⟨gD, 0, none⟩) (m + 1) c1) := (blk_cell BK6.out 0).trans rfl
  have E1 := Aside0.mk e1
  have HF4 := Aside0.mk (Kd.F_now hF4)
  have HL4 := Aside0.mk hl4
  have HO_ := Aside0.mk ho
  have HKD := Aside0.mk hcD
  clear hFK hcc hfr hgetD hF4 hl4 hcD ho
  have hkb : (o.f0 == 1) = true := beq_iff_eq.2 hk
  have HQ := Aside0.mk hq
  clear hq
  go_wp2_with fail
  go_at_call 30
  refine (equalC_calls A4 c4 o.f4 Ap cp pt w6 HF4.out HL4.out (HC.out w6 HK6.out HB6.out) hcp).mono ?_
  rintro e w7 ⟨he, hb⟩
  rw [eqB_true.2 HQ.out] at he
  subst he
  replace BK6 := Aside0.mk (blk_below BK6.out hb)
  replace HD6 := Aside0.mk (Kd.N_below HD6.out hb)
  replace HB6 := Aside0.mk (below_then HB6.out (Nat.le_trans hbase HK6.out.1) hb)
  replace HK6 := Aside0.mk (HK6.out.below hb)
  replace HKD := Aside0.mk (blk_below HKD.out hb)
  clear hb cp0 e0 e1 e4 HF4
  obtain ⟨ce, hcl, hFK, hcc, hfr⟩ := Kd.N_elem HD6.out z30 (m : Int) (by omega) (by omega)
  have hgetD : D1.getD (m : Int).toNat z30 = o := by rw [Int.toNat_natCast, List.getD_eq_getElem?_getD, HO_.out]; rfl
  rw [hgetD] at hFK
  obtain ⟨A2, c2, A3, c3, A4, c4, rfl, l2, F2, l3, F3, l4, F4⟩ := k30_openF hFK
  have e1 : w7.cell? ⟨gD, m * 5 + 1, none⟩ = some (.int .i64 o.f1) := hcc 1 _ rfl
  have cp0 : w7.cell? ⟨p, 0, none⟩ = some (.slice (some ⟨gD, 0, none⟩) (m + 1) c1) := (blk_cell BK6.out 0).trans rfl
  have f1 := blk_frozen HKD.out (m * 5 + 1)
  have hS := Kd.N_seg HD6.out (m : Int) (by omega) (by omega) hcl hcc (seg := [.int .i64 (wrap64 (o.f1 + n))]) (j := 1) (show 1 + 1 ≤ 5 from by decide) (x' := (⟨o.f0, wrap64 (o.f1 + n), o.f2, o.f3, o.f4⟩ : S30)) (k30_mkF _ _ (⟨o.f0, wrap64 (o.f1 + n), o.f2, o.f3, o.f4⟩ : S30) l2 F2 l3 F3 l4 F4) (fun _ hk => hk)
  have HS := Aside0.mk hS.1
  have hgk : (okD gD ∨ okI gD) ∨ w.heap.size ≤ gD := Kd.N_ok HD6.out gD (by simp [Value.ownBlock])
  have HGK := Aside0.mk hgk
  clear hS hFK hcc hfr hcl hgetD l2 F2 l3 F3 l4 F4 hgk
  have q0 : (0 : Int) ≤ (m : Int) := Int.natCast_nonneg m
  have q1 : (m : Int) < (m : Int) + 1 := by omega
  go_wp2_with fail
  refine bodyPost_ret (results_none rfl _ _ _) rfl ?_
  have hgp := HKP.out gD HGK.out
  have hgb : base ≤ gD := HGK.out.elim (fun h_ => h_.elim (fun h2_ => (H6.out gD h2_).1) (fun h2_ => (H7.out gD h2_).1)) (fun h_ => Nat.le_trans hbase h_)
  refine ⟨rfl, ⟨_, _, _, fun _ => False, (Below.heap_setCell w7 ⟨gD, m * 5 + 1, none⟩ _ p (fun e_ => hgp e_.symm)).trans BK6.out, h2, .inl H3.out, HS.out, Kd.S_nil _ _ _ _ _, ?_, fun k hk => hk.elim⟩, HK6.out.setCell (p := ⟨gD, m * 5 + 1, none⟩) (HGK.out.imp (fun h_ => h_.elim (fun h2_ => (H6.out gD h2_).2.1) (fun h2_ => (H7.out gD h2_).2.1)) id) _, HB6.out.setCell (p := ⟨gD, m * 5 + 1, none⟩) hgb _⟩
  exact fun k hk => ⟨hk.elim (fun h_ => h_.elim (fun h2_ => (H6.out k h2_).1) (fun h2_ => (H7.out k h2_).1)) (fun h_ => Nat.le_trans hbase h_), hk.elim (fun h_ => .inl (h_.elim (fun h2_ => (H6.out k h2_).2.1) (fun h2_ => (H7.out k h2_).2.1))) .inr, HKP.out k hk⟩
end Go.Proofs.Ytmjeoknamoegpaa.P
