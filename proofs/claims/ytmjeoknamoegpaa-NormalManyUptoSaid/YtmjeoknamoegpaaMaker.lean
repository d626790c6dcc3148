-- by hand: normal.Maker
import Derived.Test.YtmjeoknamoegpaaEqs
namespace Go.Proofs.Ytmjeoknamoegpaa.P
open Go.RowKit Go.Proofs.YtmjeoknamoegpaaW.PrintWords Go.Proofs.YtmjeoknamoegpaaW.PrintLast Go.Proofs.YtmjeoknamoegpaaW.PrintMore
set_option linter.unusedVariables false
set_option linter.unusedSimpArgs false

def gapP (I : List S30) (g : Int) : List S30 := if g > 0 then I ++ [⟨3, g, [], [], []⟩] else I
theorem clone_eq (I : List S30) (h : I.length < 1599289640401) : api_Op_48.f I = some I := by
  unfold api_Op_48.f
  simp [h]
/-- What an op's cells lead to. -/
theorem op3_FK (W : World) (ok : Nat → Prop) (k n : Int) : Kd.FK k30 W ok ⟨k, n, [], [], []⟩ [.int .u8 k, .int .i64 n, .slice none 0 0, .slice none 0 0, .slice none 0 0] := fun W' _ =>
  k30_mk W' ⟨k, n, [], [], []⟩ (by simp) (Kd.C_nil _ _) (by simp) (Kd.C_nil _ _) (by simp) (Kd.C_nil _ _)

set_option maxHeartbeats 1000000 in
set_option maxRecDepth 100000 in
theorem gap_calls (p : Nat) (A : Option Addr) (c : Nat) (I : List S30) (g : Int) (okI : Nat → Prop) (w : World) (h1 : w.cell? ⟨p, 1, none⟩ = some (.slice A I.length c)) (h2 : w.cell? ⟨p, 2, none⟩ = some (.int .i64 g))
    (hV : Kd.V k30 30 w w.heap.size okI (.slice A I.length c) I) (hl : I.length ≤ 1000000) :
    Calls Try.prog 35 #[.pointer (some ⟨p, 0, none⟩)] w fun e w' => ∃ v : Value, e = .returned v ∧ Kd.N k30 30 w' w.heap.size (fun k => okI k ∨ w.heap.size ≤ k) v (gapP I g) ∧ Below w.heap.size w w' := by
  have HV := Aside0.mk hV
  have H2 := Aside0.mk h2
  clear hV
  unfold gapP
  by_cases hg : g > 0
  · rw [if_pos hg]
    have hgb : decide (0 < g) = true := decide_eq_true hg
    clear hg
    go_enter Try.func35, Try.ntmps35
    go_wp2_with fail
    go_at_call 48
    refine (api_Op_48.calls okI A c I I w HV.out (clone_eq I (by omega))).mono ?_
    rintro e w1 ⟨v, rfl, hN, hb⟩
    have h2' : w1.cell? ⟨p, 2, none⟩ = some (.int .i64 g) := (hb.cell (World.block_lt_of_cell? w _ H2.out)).trans H2.out
    have HN := Aside0.mk hN
    have HB := Aside0.mk hb
    clear h1 h2 H2 hN hb
    go_wp2_with ((with_reducible refine gate_builtin (b := .append) (xs := #[.tmp 14, .tmp 20]) rfl ?_); at_builtin; refine Kd.N_append k30 (w0 := w) w.heap.size rfl (.tmp 14) (.tmp 20) 23 30 (.agg #[(.int .u8 0), (.int .i64 0), (.slice none 0 0), (.slice none 0 0), (.slice none 0 0)]) 88 rfl Try.underlying23 info30 rfl (by decide) (by omega) v I ⟨3, g, [], [], []⟩ [.int .u8 3, .int .i64 g, .slice none 0 0, .slice none 0 0, .slice none 0 0] (fun k => okI k ∨ w.heap.size ≤ k) (fun _ => False) rfl rfl (op3_FK _ _ _ _) (fun _ hk => hk.elim) (fun k hk => .inr (Nat.le_trans HB.out.size hk)) HN.out HB.out HB.out.size (by omega) ?_; intro v1 w2 hN1 hB1 hg1 hat1; have HN1 := Aside0.mk hN1; have HB1 := Aside0.mk hB1; clear hN1 hB1 hg1 hat1 HN HB)
    go_ret
    exact ⟨_, rfl, HN1.out, HB1.out⟩
  · rw [if_neg hg]
    have hgb : decide (0 < g) = false := decide_eq_false hg
    clear hg
    go_enter Try.func35, Try.ntmps35
    go_wp2_with fail
    go_at_call 48
    refine (api_Op_48.calls okI A c I I w HV.out (clone_eq I (by omega))).mono ?_
    rintro e w1 ⟨v, rfl, hN, hb⟩
    have h2' : w1.cell? ⟨p, 2, none⟩ = some (.int .i64 g) := (hb.cell (World.block_lt_of_cell? w _ H2.out)).trans H2.out
    have HN := Aside0.mk hN
    have HB := Aside0.mk hb
    clear h1 h2 H2 hN hb
    go_wp2_with fail
    go_ret
    exact ⟨_, rfl, HN.out, HB.out⟩

/-- A maker: done's ops are only read (but for the row's own block), the inserts are its own. -/
def Mk (w : World) (base : Nat) (ok : Nat → Prop) (p : Nat) (D I : List S30) (g : Int) : Prop :=
  ∃ (vD vI : Value) (okD okI : Nat → Prop), w.heap[p]? = some (.cells #[vD, vI, .int .i64 g] 46 (0, 0)) ∧ base ≤ p ∧ ok p ∧ Kd.N k30 30 w base okD vD D ∧ Kd.S k30 30 w base okI vI I ∧
    (∀ k, okD k → base ≤ k ∧ ok k ∧ k ≠ p) ∧ ∀ k, okI k → base ≤ k ∧ ok k ∧ k ≠ p ∧ ¬ okD k
def MkPost (w : World) (base : Nat) (ok : Nat → Prop) (p : Nat) (D I : List S30) (g : Int) (w' : World) : Prop :=
  Mk w' base (fun k => ok k ∨ w.heap.size ≤ k) p D I g ∧ Kept w w' ok ∧ Below base w w'
theorem Mk.mono {w : World} {base p : Nat} {ok ok' : Nat → Prop} {D I : List S30} {g : Int} (h : Mk w base ok p D I g) (hok : ∀ k, ok k → ok' k) : Mk w base ok' p D I g := by
  obtain ⟨vD, vI, okD, okI, h1, h2, h3, h4, h5, h6, h7⟩ := h
  exact ⟨vD, vI, okD, okI, h1, h2, hok _ h3, h4, h5, fun k hk => ⟨(h6 k hk).1, hok _ (h6 k hk).2.1, (h6 k hk).2.2⟩, fun k hk => ⟨(h7 k hk).1, hok _ (h7 k hk).2.1, (h7 k hk).2.2⟩⟩
theorem Mk.step {w w' : World} {base p : Nat} {ok : Nat → Prop} {D I : List S30} {g : Int} (h : Mk w base ok p D I g) (hm : ∀ k, ok k → k < w.heap.size → w'.heap[k]? = w.heap[k]?) : Mk w' base ok p D I g := by
  obtain ⟨vD, vI, okD, okI, h1, h2, h3, h4, h5, h6, h7⟩ := h
  exact ⟨vD, vI, okD, okI, (hm p h3 (blk_lt h1)).trans h1, h2, h3, Kd.N_step h4 (fun k hk hl => hm k (h6 k hk).2.1 hl), Kd.S_step h5 (fun k hk hl => hm k (h7 k hk).2.1 hl), h6, h7⟩
theorem Mk.below {w w' : World} {base p : Nat} {ok : Nat → Prop} {D I : List S30} {g : Int} (h : Mk w base ok p D I g) (hb : Below w.heap.size w w') : Mk w' base ok p D I g := h.step (fun k _ hl => hb.block k hl)
theorem Mk.bound {w : World} {base p : Nat} {ok : Nat → Prop} {D I : List S30} {g : Int} (h : Mk w base ok p D I g) : Mk w base (fun k => ok k ∧ k < w.heap.size) p D I g := by
  obtain ⟨vD, vI, okD, okI, h1, h2, h3, h4, h5, h6, h7⟩ := h
  exact ⟨vD, vI, _, _, h1, h2, ⟨h3, blk_lt h1⟩, Kd.N_bound h4, Kd.S_bound h5, fun k hk => ⟨(h6 k hk.1).1, ⟨(h6 k hk.1).2.1, hk.2⟩, (h6 k hk.1).2.2⟩, fun k hk => ⟨(h7 k hk.1).1, ⟨(h7 k hk.1).2.1, hk.2.2.1⟩, (h7 k hk.1).2.2.1, fun h2 => (h7 k hk.1).2.2.2 h2.1⟩⟩

/-- Fields are put: the rows stay apart. -/
theorem Mk.put {w w' : World} {base p : Nat} {ok : Nat → Prop} {D I D' I' : List S30} {g g' : Int} {vD vI vD' vI' : Value} {okD okI okD' okI' : Nat → Prop} (h1 : w'.heap[p]? = some (.cells #[vD', vI', .int .i64 g'] 46 (0, 0))) (h2 : base ≤ p) (h3 : ok p)
    (h4 : Kd.N k30 30 w' base okD' vD' D') (h5 : Kd.S k30 30 w' base okI' vI' I') (h6 : ∀ k, okD' k → base ≤ k ∧ ok k ∧ k ≠ p) (h7 : ∀ k, okI' k → base ≤ k ∧ ok k ∧ k ≠ p ∧ ¬ okD' k) : Mk w' base ok p D' I' g' :=
  ⟨vD', vI', okD', okI', h1, h2, h3, h4, h5, h6, h7⟩
def deleteP (n g : Int) : Int := wrap64 (g + mx n 0)
set_option maxHeartbeats 1000000 in
set_option maxRecDepth 100000 in
theorem delete_calls (p : Nat) (n g : Int) (D I : List S30) (base : Nat) (ok : Nat → Prop) (w : World) (hM : Mk w base ok p D I g) :
    Calls Try.prog 22 #[.pointer (some ⟨p, 0, none⟩), .int .i64 n] w fun e w' => e = .returned (.tuple #[]) ∧ MkPost w base ok p D I (deleteP n g) w' := by
  obtain ⟨vD, vI, okD, okI, h1, h2, h3, h4, h5, h6, h7⟩ := hM
  have c2 : w.cell? ⟨p, 2, none⟩ = some (.int .i64 g) := by simp [World.cell?, h1]
  have f2 := blk_frozen h1 2
  have H1 := Aside0.mk h1
  have H4 := Aside0.mk h4
  have H5 := Aside0.mk h5
  have H6 := Aside0.mk h6
  have H7 := Aside0.mk h7
  have H3 := Aside0.mk h3
  clear h1 h4 h5 h6 h7 h3
  unfold deleteP
  go_enter Try.func22, Try.ntmps22
  go_wp2_with fail
  all_goals
    go_end0
    refine ⟨rfl, ?_, (Kept.refl w ok).setCell (p := ⟨p, 2, none⟩) (.inl H3.out) _, (Below.refl base w).setCell (p := ⟨p, 2, none⟩) h2 _⟩
    refine Mk.mono (ok := ok) ⟨vD, vI, okD, okI, ?_, h2, H3.out, Kd.N_far H4.out (p := ⟨p, 2, none⟩) (fun k hk => (H6.out k hk).2.2) _, Kd.S_far H5.out (p := ⟨p, 2, none⟩) (fun k hk => (H7.out k hk).2.2.1) _, H6.out, H7.out⟩ (fun k hk => .inl hk)
    refine blk_put H1.out 2 _ ?_
    unfold mx
    first | (rw [if_neg (by omega)]; rfl) | (rw [if_pos (by omega), Int.add_zero]; rfl)
end Go.Proofs.Ytmjeoknamoegpaa.P
