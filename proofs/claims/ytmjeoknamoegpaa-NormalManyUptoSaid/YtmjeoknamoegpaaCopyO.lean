-- by hand (printed by wip/tools/gen_copy.py): ops.Copy
import Derived.Test.YtmjeoknamoegpaaConcat
namespace Go.Proofs.Ytmjeoknamoegpaa.P
open Go.RowKit Go.Proofs.YtmjeoknamoegpaaW.PrintWords Go.Proofs.YtmjeoknamoegpaaW.PrintLast Go.Proofs.YtmjeoknamoegpaaW.PrintMore
set_option linter.unusedVariables false
set_option linter.unusedSimpArgs false
/-- Behind k rounds: the elements below k have rows of their own (okj), the others are as they came. -/
def CopyInv (w W : World) (v : Value) (l : List S30) (k : Nat) : Prop :=
  Below w.heap.size w W ∧ ∃ (rows : List (List Value)) (okj : Nat → Nat → Prop), rows.length = l.length ∧ (Kd.raw 5).R 30 W w.heap.size (fun _ => True) v rows ∧ (∀ i j b, okj i b → okj j b → i = j) ∧
    (∀ j b, okj j b → w.heap.size ≤ b ∧ b < W.heap.size ∧ some b ≠ v.ownBlock) ∧ (∀ j x c, j < k → l[j]? = some x → rows[j]? = some c → k30.M W w.heap.size (okj j) x c) ∧
    ∀ j x c, k ≤ j → l[j]? = some x → rows[j]? = some c → Kd.FK k30 W (fun b => some b ≠ v.ownBlock) x c
theorem CopyInv.start {w W : World} {v : Value} {l : List S30} {ok : Nat → Prop} (hN : Kd.N k30 30 W w.heap.size ok v l) (hb : Below w.heap.size w W) : CopyInv w W v l 0 := by
  obtain ⟨_, rows, hl, hR, hf⟩ := hN
  exact ⟨hb, rows, fun _ _ => False, hl, Kd.raw_any hR, fun _ _ _ h => h.elim, fun _ _ h => h.elim, fun j x c hj => absurd hj (by omega), fun j x c _ hx hc => Kd.FK_mono (hf j x c hx hc) (fun b hb => hb.2)⟩
theorem CopyInv.stop {w W : World} {v : Value} {l : List S30} (h : CopyInv w W v l l.length) : Kd.S k30 30 W w.heap.size (fun _ => True) v l ∧ Below w.heap.size w W := by
  obtain ⟨hb, rows, okj, hl, hR, hap, hok, hM, _⟩ := h
  obtain ⟨_, inner, ho, hr⟩ := hR
  have hsz : inner.length = l.length * k30.sz := by rw [hr.1, hl]; rfl
  obtain ⟨f, hf⟩ := Kd.reps_tag (d := k30) (w := W) (base := w.heap.size) (ok := fun b => True ∧ some b ≠ v.ownBlock) (xs := l) (inner := inner) okj hap (fun j b hj => ⟨trivial, (hok j b hj).2.2⟩) hsz (fun j x hx => by
    have hj : j < rows.length := by rw [hl]; exact (List.getElem?_eq_some_iff.1 hx).1
    have h1 := hr.2 j _ (List.getElem?_eq_getElem hj)
    have h2 := hM j x _ (by rw [← hl]; exact hj) hx (List.getElem?_eq_getElem hj)
    have h3 : (inner.drop (j * 5)).take 5 = rows[j] := h1.1
    show k30.M W w.heap.size (okj j) x ((inner.drop (j * 5)).take 5)
    rw [h3]; exact h2)
  refine ⟨⟨f, fun _ _ => trivial, inner, ?_, hf⟩, hb⟩
  rw [List.length_zipIdx, ← hl]; exact ho

set_option maxHeartbeats 8000000 in
set_option maxRecDepth 100000 in
theorem copyO_calls (A : Option Addr) (c : Nat) (l : List S30) (w : World) (hC : Kd.C k30 w A l.length l) (hc : l.length ≤ c) (hl : l.length ≤ 3000000) (hs : ∀ x ∈ l, x.f2.length ≤ 1000000 ∧ x.f3.length ≤ 1000000 ∧ x.f4.length ≤ 1000000) :
    Calls Try.prog 40 #[.slice A l.length c] w fun e w' => ∃ v : Value, e = .returned v ∧ Kd.S k30 30 w' w.heap.size (fun _ => True) v l ∧ Below w.heap.size w w' := by
  have hV : Kd.V k30 30 w w.heap.size (fun k => k < w.heap.size) (.slice A l.length c) l := Kd.V_mk hc (Kd.C_F k30_heap hC)
  have HV := Aside0.mk hV
  have HSM := Aside0.mk hs
  clear hV hC hs
  go_enter Try.func40, Try.ntmps40
  go_wp2_with fail
  go_at_call 48
  refine (api_Op_48.calls _ A c l l w HV.out (clone_eq l (by omega))).mono ?_
  rintro e w1 ⟨v, rfl, hN, hb⟩
  have HI := Aside0.mk (CopyInv.start hN hb)
  obtain ⟨Av, cv, rfl⟩ := Kd.N_slice hN
  clear hN hb HV
  go_wp2_with fail
  go_loopw [9] (fun i wr => ∃ k : Nat, k ≤ l.length ∧ i = .int .i64 k ∧ Aside0 (CopyInv w wr (.slice Av l.length cv) l k)) (fun i _ => l.length - (intOf i).toNat)
  case atStart => exact ⟨0, Nat.zero_le _, rfl, HI⟩
  case round =>
    clear HI
    obtain ⟨k, hk, rfl, HI⟩ := hrel
    by_cases hlt : k < l.length
    · obtain ⟨hB, rows, okj, hrl, hR, hap, hok, hM, hF⟩ := HI.out
      obtain ⟨g, cap, hv, hgb, hgl, cellsG, hcG⟩ := Kd.R_form hR (by omega)
      injection hv with hA_ hlen_ hc_
      subst hA_; subst hc_
      clear hlen_
      obtain ⟨x, hx⟩ : ∃ x, l[k]? = some x := ⟨_, List.getElem?_eq_getElem hlt⟩
      obtain ⟨cw, hcw⟩ : ∃ c, rows[k]? = some c := ⟨_, List.getElem?_eq_getElem (by omega)⟩
      obtain ⟨A2, c2, A3, c3, A4, c4, rfl, l2, f2, l3, f3, l4, f4⟩ := k30_openF (hF k x cw (Nat.le_refl _) hx hcw)
      obtain ⟨cx, hcl, hMx, hcc, hfr⟩ := Kd.R_elem hR [] (k : Int) (by omega) (by omega)
      have hgD : rows.getD (k : Int).toNat [] = _ := (by rw [Int.toNat_natCast, List.getD_eq_getElem?_getD, hcw]; rfl : rows.getD (k : Int).toNat [] = [.int .u8 x.f0, .int .i64 x.f1, .slice A2 x.f2.length c2, .slice A3 x.f3.length c3, .slice A4 x.f4.length c4])
      rw [hgD] at hMx
      obtain rfl := hMx.1
      have E2 : Aside0 (cellsG[k * 5 + 2]? = some (.slice A2 x.f2.length c2)) := ⟨(blk_cell hcG (k * 5 + 2)).symm.trans (hcc 2 _ rfl)⟩
      have E3 : Aside0 (cellsG[k * 5 + 3]? = some (.slice A3 x.f3.length c3)) := ⟨(blk_cell hcG (k * 5 + 3)).symm.trans (hcc 3 _ rfl)⟩
      have E4 : Aside0 (cellsG[k * 5 + 4]? = some (.slice A4 x.f4.length c4)) := ⟨(blk_cell hcG (k * 5 + 4)).symm.trans (hcc 4 _ rfl)⟩
      have BG := Aside0.mk hcG
      have F2 := Aside0.mk f2
      have F3 := Aside0.mk f3
      have F4 := Aside0.mk f4
      have HR := Aside0.mk hR
      have HCC := Aside0.mk hcc
      have HROW := Aside0.mk hcw
      have HX := Aside0.mk hx
      have HAP := Aside0.mk hap
      have HOK := Aside0.mk hok
      have HM := Aside0.mk hM
      have HF := Aside0.mk hF
      have HB := Aside0.mk hB
      have HRL := Aside0.mk hrl
      have HGL := Aside0.mk hgl
      obtain ⟨hx2, hx3, hx4⟩ := HSM.out x (List.mem_of_getElem? hx)
      have q1 : (k : Int) < (l.length : Int) := by omega
      have q0 : (0 : Int) ≤ (k : Int) := Int.natCast_nonneg k
      clear hB hR hap hok hM hF hcG f2 f3 f4 hcc hcw hx hgD hfr hcl hMx hrl hgl
      go_wp2_with fail
      refine start_ (n := 33) (S := fun w' => w'.cell? ⟨g, k * 5 + 2, none⟩ = some (.slice A2 x.f2.length c2) ∧ w'.cell? ⟨g, k * 5 + 3, none⟩ = some (.slice A3 x.f3.length c3) ∧ w'.cell? ⟨g, k * 5 + 4, none⟩ = some (.slice A4 x.f4.length c4)) (ds := [26, 29, 32]) #[false, false, false, false, false, false, false, false, false, false, false, false, false, false, false, false, false, false, false, false, false, false, false, false, false, false, false, false, false, false, false, false, false] (by kernel_rfl) rfl rfl ⟨((blk_cell (w := wr.drew) BG.out (k * 5 + 2)).trans E2.out), ((blk_cell (w := wr.drew) BG.out (k * 5 + 3)).trans E3.out), ((blk_cell (w := wr.drew) BG.out (k * 5 + 4)).trans E4.out)⟩ (fun hHeld => ?_)
      have hb := below_drew (Below.refl wr.heap.size wr)
      generalize wr.drew = w2 at hb hHeld ⊢
      replace BG := Aside0.mk (blk_below BG.out hb)
      replace F2 := Aside0.mk (Kd.F_below F2.out hb)
      replace F3 := Aside0.mk (Kd.F_below F3.out hb)
      replace F4 := Aside0.mk (Kd.F_below F4.out hb)
      have HB2 := Aside0.mk hb
      clear hb
      refine pure_ (i := 0) (N := some 12) (v := ?_) (a' := ?_) #[true, false, false, false, false, false, false, false, false, false, false, false, false, false, false, false, false, false, false, false, false, false, false, false, false, false, false, false, false, false, false, false, false] rfl rfl (any_of rfl (by kernel_rfl)) (fun _ _ _ h => h) (Or.inl ⟨by rfl, ?_⟩) ?_ ?_
      rotate_left
      · intro w'
        go_simp
        with_reducible rfl
      rotate_left
      · simp only [Act.put, List.setIfInBounds_toArray, List.set_cons_zero, List.set_cons_succ, i64_w, i32_w]
        rfl
      refine pure_ (i := 1) (N := some 13) (v := ?_) (a' := ?_) #[true, true, false, false, false, false, false, false, false, false, false, false, false, false, false, false, false, false, false, false, false, false, false, false, false, false, false, false, false, false, false, false, false] rfl rfl (any_of rfl (by kernel_rfl)) (fun _ _ _ h => h) (Or.inl ⟨by rfl, ?_⟩) ?_ ?_
      rotate_left
      · intro w'
        go_simp
        with_reducible rfl
      rotate_left
      · simp only [Act.put, List.setIfInBounds_toArray, List.set_cons_zero, List.set_cons_succ, i64_w, i32_w]
        rfl
      refine pure_ (i := 2) (N := some 14) (v := ?_) (a' := ?_) #[true, true, true, false, false, false, false, false, false, false, false, false, false, false, false, false, false, false, false, false, false, false, false, false, false, false, false, false, false, false, false, false, false] rfl rfl (any_of rfl (by kernel_rfl)) (fun _ _ _ h => h) (Or.inl ⟨by rfl, ?_⟩) ?_ ?_
      rotate_left
      · intro w'
        go_simp
        with_reducible rfl
      rotate_left
      · simp only [Act.put, List.setIfInBounds_toArray, List.set_cons_zero, List.set_cons_succ, i64_w, i32_w]
        rfl
      refine pure_ (i := 3) (N := some 15) (v := ?_) (a' := ?_) #[true, true, true, true, false, false, false, false, false, false, false, false, false, false, false, false, false, false, false, false, false, false, false, false, false, false, false, false, false, false, false, false, false] rfl rfl (any_of rfl (by kernel_rfl)) (fun _ _ _ h => h) (Or.inl ⟨by rfl, ?_⟩) ?_ ?_
      rotate_left
      · intro w'
        go_simp
        with_reducible rfl
      rotate_left
      · simp only [Act.put, List.setIfInBounds_toArray, List.set_cons_zero, List.set_cons_succ, i64_w, i32_w]
        rfl
      refine pure_ (i := 4) (N := some 16) (v := ?_) (a' := ?_) #[true, true, true, true, true, false, false, false, false, false, false, false, false, false, false, false, false, false, false, false, false, false, false, false, false, false, false, false, false, false, false, false, false] rfl rfl (any_of rfl (by kernel_rfl)) (fun _ _ _ h => h) (Or.inl ⟨by rfl, ?_⟩) ?_ ?_
      rotate_left
      · intro w'
        go_simp
        with_reducible rfl
      rotate_left
      · simp only [Act.put, List.setIfInBounds_toArray, List.set_cons_zero, List.set_cons_succ, i64_w, i32_w]
        rfl
      refine pure_ (i := 5) (N := some 17) (v := ?_) (a' := ?_) #[true, true, true, true, true, true, false, false, false, false, false, false, false, false, false, false, false, false, false, false, false, false, false, false, false, false, false, false, false, false, false, false, false] rfl rfl (any_of rfl (by kernel_rfl)) (fun _ _ _ h => h) (Or.inl ⟨by rfl, ?_⟩) ?_ ?_
      rotate_left
      · intro w'
        go_simp
        with_reducible rfl
      rotate_left
      · simp only [Act.put, List.setIfInBounds_toArray, List.set_cons_zero, List.set_cons_succ, i64_w, i32_w]
        rfl
      refine pure_ (i := 6) (N := some 18) (v := ?_) (a' := ?_) #[true, true, true, true, true, true, true, false, false, false, false, false, false, false, false, false, false, false, false, false, false, false, false, false, false, false, false, false, false, false, false, false, false] rfl rfl (any_of rfl (by kernel_rfl)) (fun _ _ _ h => h) (Or.inl ⟨by rfl, ?_⟩) ?_ ?_
      rotate_left
      · intro w'
        go_simp
        with_reducible rfl
      rotate_left
      · simp only [Act.put, List.setIfInBounds_toArray, List.set_cons_zero, List.set_cons_succ, i64_w, i32_w]
        rfl
      refine pure_ (i := 7) (N := some 19) (v := ?_) (a' := ?_) #[true, true, true, true, true, true, true, true, false, false, false, false, false, false, false, false, false, false, false, false, false, false, false, false, false, false, false, false, false, false, false, false, false] rfl rfl (any_of rfl (by kernel_rfl)) (fun _ _ _ h => h) (Or.inl ⟨by rfl, ?_⟩) ?_ ?_
      rotate_left
      · intro w'
        go_simp
        with_reducible rfl
      rotate_left
      · simp only [Act.put, List.setIfInBounds_toArray, List.set_cons_zero, List.set_cons_succ, i64_w, i32_w]
        rfl
      refine pure_ (i := 8) (N := some 20) (v := ?_) (a' := ?_) #[true, true, true, true, true, true, true, true, true, false, false, false, false, false, false, false, false, false, false, false, false, false, false, false, false, false, false, false, false, false, false, false, false] rfl rfl (any_of rfl (by kernel_rfl)) (fun _ _ _ h => h) (Or.inl ⟨by rfl, ?_⟩) ?_ ?_
      rotate_left
      · intro w'
        go_simp
        with_reducible rfl
      rotate_left
      · simp only [Act.put, List.setIfInBounds_toArray, List.set_cons_zero, List.set_cons_succ, i64_w, i32_w]
        rfl
      refine pure_ (i := 9) (N := some 21) (v := ?_) (a' := ?_) #[true, true, true, true, true, true, true, true, true, true, false, false, false, false, false, false, false, false, false, false, false, false, false, false, false, false, false, false, false, false, false, false, false] rfl rfl (any_of rfl (by kernel_rfl)) (fun _ _ _ h => h) (Or.inl ⟨by rfl, ?_⟩) ?_ ?_
      rotate_left
      · intro w'
        go_simp
        with_reducible rfl
      rotate_left
      · simp only [Act.put, List.setIfInBounds_toArray, List.set_cons_zero, List.set_cons_succ, i64_w, i32_w]
        rfl
      refine pure_ (i := 12) (N := some 24) (v := ?_) (a' := ?_) #[true, true, true, true, true, true, true, true, true, true, false, false, true, false, false, false, false, false, false, false, false, false, false, false, false, false, false, false, false, false, false, false, false] rfl rfl (any_of rfl (by kernel_rfl)) (fun _ _ _ h => h) (Or.inl ⟨by rfl, ?_⟩) ?_ ?_
      rotate_left
      · intro w'
        go_simp
        with_reducible rfl
      rotate_left
      · simp only [Act.put, List.setIfInBounds_toArray, List.set_cons_zero, List.set_cons_succ, i64_w, i32_w]
        rfl
      refine pure_ (i := 13) (N := some 25) (v := ?_) (a' := ?_) #[true, true, true, true, true, true, true, true, true, true, false, false, true, true, false, false, false, false, false, false, false, false, false, false, false, false, false, false, false, false, false, false, false] rfl rfl (any_of rfl (by kernel_rfl)) (fun _ _ _ h => h) (Or.inl ⟨by rfl, ?_⟩) ?_ ?_
      rotate_left
      · intro w'
        go_simp
        with_reducible rfl
      rotate_left
      · simp only [Act.put, List.setIfInBounds_toArray, List.set_cons_zero, List.set_cons_succ, i64_w, i32_w]
        rfl
      refine pure_ (i := 14) (N := some 26) (v := ?_) (a' := ?_) #[true, true, true, true, true, true, true, true, true, true, false, false, true, true, true, false, false, false, false, false, false, false, false, false, false, false, false, false, false, false, false, false, false] rfl rfl (any_of rfl (by kernel_rfl)) (fun _ _ _ h => h) (Or.inl ⟨by rfl, ?_⟩) ?_ ?_
      rotate_left
      · intro w'
        go_simp
        with_reducible rfl
      rotate_left
      · simp only [Act.put, List.setIfInBounds_toArray, List.set_cons_zero, List.set_cons_succ, i64_w, i32_w]
        rfl
      refine pure_ (i := 15) (N := some 27) (v := ?_) (a' := ?_) #[true, true, true, true, true, true, true, true, true, true, false, false, true, true, true, true, false, false, false, false, false, false, false, false, false, false, false, false, false, false, false, false, false] rfl rfl (any_of rfl (by kernel_rfl)) (fun _ _ _ h => h) (Or.inl ⟨by rfl, ?_⟩) ?_ ?_
      rotate_left
      · intro w'
        go_simp
        with_reducible rfl
      rotate_left
      · simp only [Act.put, List.setIfInBounds_toArray, List.set_cons_zero, List.set_cons_succ, i64_w, i32_w]
        rfl
      refine pure_ (i := 18) (N := some 30) (v := ?_) (a' := ?_) #[true, true, true, true, true, true, true, true, true, true, false, false, true, true, true, true, false, false, true, false, false, false, false, false, false, false, false, false, false, false, false, false, false] rfl rfl (any_of rfl (by kernel_rfl)) (fun _ _ _ h => h) (Or.inl ⟨by rfl, ?_⟩) ?_ ?_
      rotate_left
      · intro w'
        go_simp
        with_reducible rfl
      rotate_left
      · simp only [Act.put, List.setIfInBounds_toArray, List.set_cons_zero, List.set_cons_succ, i64_w, i32_w]
        rfl
      refine pure_ (i := 19) (N := some 31) (v := ?_) (a' := ?_) #[true, true, true, true, true, true, true, true, true, true, false, false, true, true, true, true, false, false, true, true, false, false, false, false, false, false, false, false, false, false, false, false, false] rfl rfl (any_of rfl (by kernel_rfl)) (fun _ _ _ h => h) (Or.inl ⟨by rfl, ?_⟩) ?_ ?_
      rotate_left
      · intro w'
        go_simp
        with_reducible rfl
      rotate_left
      · simp only [Act.put, List.setIfInBounds_toArray, List.set_cons_zero, List.set_cons_succ, i64_w, i32_w]
        rfl
      refine pure_ (i := 20) (N := some 32) (v := ?_) (a' := ?_) #[true, true, true, true, true, true, true, true, true, true, false, false, true, true, true, true, false, false, true, true, true, false, false, false, false, false, false, false, false, false, false, false, false] rfl rfl (any_of rfl (by kernel_rfl)) (fun _ _ _ h => h) (Or.inl ⟨by rfl, ?_⟩) ?_ ?_
      rotate_left
      · intro w'
        go_simp
        with_reducible rfl
      rotate_left
      · simp only [Act.put, List.setIfInBounds_toArray, List.set_cons_zero, List.set_cons_succ, i64_w, i32_w]
        rfl
      refine pure_ (i := 21) (N := some 33) (v := ?_) (a' := ?_) #[true, true, true, true, true, true, true, true, true, true, false, false, true, true, true, true, false, false, true, true, true, true, false, false, false, false, false, false, false, false, false, false, false] rfl rfl (any_of rfl (by kernel_rfl)) (fun _ _ _ h => h) (Or.inl ⟨by rfl, ?_⟩) ?_ ?_
      rotate_left
      · intro w'
        go_simp
        with_reducible rfl
      rotate_left
      · simp only [Act.put, List.setIfInBounds_toArray, List.set_cons_zero, List.set_cons_succ, i64_w, i32_w]
        rfl
      refine take_ (i := 10) (N := some 22) (v := ?_) (a' := ?_) #[true, true, true, true, true, true, true, true, true, true, true, false, true, true, true, true, false, false, true, true, true, true, false, false, false, false, false, false, false, false, false, false, false] rfl rfl (take_of rfl (by kernel_rfl)) (fun _ _ _ h => h) (Or.inl ⟨by rfl, ?_⟩) hHeld ?_ ?_
      rotate_left
      · rintro w' ⟨s0, s1, s2⟩
        go_simp
        with_reducible rfl
      rotate_left
      · simp only [Act.put, List.setIfInBounds_toArray, List.set_cons_zero, List.set_cons_succ, i64_w, i32_w]
        rfl
      refine take_ (i := 16) (N := some 28) (v := ?_) (a' := ?_) #[true, true, true, true, true, true, true, true, true, true, true, false, true, true, true, true, true, false, true, true, true, true, false, false, false, false, false, false, false, false, false, false, false] rfl rfl (take_of rfl (by kernel_rfl)) (fun _ _ _ h => h) (Or.inl ⟨by rfl, ?_⟩) hHeld ?_ ?_
      rotate_left
      · rintro w' ⟨s0, s1, s2⟩
        go_simp
        with_reducible rfl
      rotate_left
      · simp only [Act.put, List.setIfInBounds_toArray, List.set_cons_zero, List.set_cons_succ, i64_w, i32_w]
        rfl
      refine take_ (i := 22) (N := some 34) (v := ?_) (a' := ?_) #[true, true, true, true, true, true, true, true, true, true, true, false, true, true, true, true, true, false, true, true, true, true, true, false, false, false, false, false, false, false, false, false, false] rfl rfl (take_of rfl (by kernel_rfl)) (fun _ _ _ h => h) (Or.inl ⟨by rfl, ?_⟩) hHeld ?_ ?_
      rotate_left
      · rintro w' ⟨s0, s1, s2⟩
        go_simp
        with_reducible rfl
      rotate_left
      · simp only [Act.put, List.setIfInBounds_toArray, List.set_cons_zero, List.set_cons_succ, i64_w, i32_w]
        rfl
      refine one_ (i := 11) (N := some 23) #[true, true, true, true, true, true, true, true, true, true, true, true, true, true, true, true, true, false, true, true, true, true, true, false, false, false, false, false, false, false, false, false, false] rfl rfl (one_of rfl (by kernel_rfl)) (by decide) (fun K hK => ?_)
      refine goes_ Try.func37 (by kernel_rfl) rfl #[.slice A2 x.f2.length c2] (by rfl) rfl rfl (by (try simp only [List.map_toArray, List.map_cons, List.map_nil]); first | done | rfl) ?_
      refine (slices_Clone_int32_int32.calls A2 c2 x.f2 x.f2 w2 (Kd.F_now F2.out) l2 (cloneI_eq x.f2 hx2)).mono ?_
      rintro e w3 ⟨v2, rfl, hv, hb⟩
      have V2 := Aside0.mk hv
      replace BG := Aside0.mk (blk_below BG.out hb)
      replace F3 := Aside0.mk (Kd.F_below F3.out hb)
      replace F4 := Aside0.mk (Kd.F_below F4.out hb)
      have HB3 := Aside0.mk (below_step HB2.out hb)
      clear hv hb
      refine ⟨_, rfl, ?_⟩
      refine hK.out _ _ ⟨((blk_cell BG.out (k * 5 + 2)).trans E2.out), ((blk_cell BG.out (k * 5 + 3)).trans E3.out), ((blk_cell BG.out (k * 5 + 4)).trans E4.out)⟩ (fun hHeld => ?_)
      clear hK K
      refine norm_ (a' := ?_) ?_ ?_
      rotate_left
      · show Act.put _ (some 23) _ = _
        simp only [Act.put, List.setIfInBounds_toArray, List.set_cons_zero, List.set_cons_succ, i64_w, i32_w]
        rfl
      refine one_ (i := 17) (N := some 29) #[true, true, true, true, true, true, true, true, true, true, true, true, true, true, true, true, true, true, true, true, true, true, true, false, false, false, false, false, false, false, false, false, false] rfl rfl (one_of rfl (by kernel_rfl)) (by decide) (fun K hK => ?_)
      refine goes_ Try.func38 (by kernel_rfl) rfl #[.slice A3 x.f3.length c3] (by rfl) rfl rfl (by (try simp only [List.map_toArray, List.map_cons, List.map_nil]); first | done | rfl) ?_
      refine (attrs_Copy.calls A3 c3 x.f3 x.f3 w3 (Kd.F_now F3.out) l3 (copyA_eq x.f3 hx3)).mono ?_
      rintro e w4 ⟨v3, rfl, hv, hb⟩
      have V3 := Aside0.mk hv
      replace BG := Aside0.mk (blk_below BG.out hb)
      replace F4 := Aside0.mk (Kd.F_below F4.out hb)
      have V2b := Aside0.mk (Kd.R_below (Kd.R_bound V2.out) hb)
      have HB4 := Aside0.mk (below_step HB3.out hb)
      have hz4 := Aside0.mk hb.size
      clear hv hb
      refine ⟨_, rfl, ?_⟩
      refine hK.out _ _ ⟨((blk_cell BG.out (k * 5 + 2)).trans E2.out), ((blk_cell BG.out (k * 5 + 3)).trans E3.out), ((blk_cell BG.out (k * 5 + 4)).trans E4.out)⟩ (fun hHeld => ?_)
      clear hK K
      refine norm_ (a' := ?_) ?_ ?_
      rotate_left
      · show Act.put _ (some 29) _ = _
        simp only [Act.put, List.setIfInBounds_toArray, List.set_cons_zero, List.set_cons_succ, i64_w, i32_w]
        rfl
      refine one_ (i := 23) (N := some 35) #[true, true, true, true, true, true, true, true, true, true, true, true, true, true, true, true, true, true, true, true, true, true, true, true, false, false, false, false, false, false, false, false, false] rfl rfl (one_of rfl (by kernel_rfl)) (by decide) (fun K hK => ?_)
      refine goes_ Try.func36 (by kernel_rfl) rfl #[.slice A4 x.f4.length c4] (by rfl) rfl rfl (by (try simp only [List.map_toArray, List.map_cons, List.map_nil]); first | done | rfl) ?_
      refine (patch_Copy.calls A4 c4 x.f4 x.f4 w4 (Kd.F_now F4.out) l4 (copyC_eq x.f4 hx4)).mono ?_
      rintro e w5 ⟨v4, rfl, hv, hb⟩
      have V4 := Aside0.mk (Kd.R_bound hv)
      replace BG := Aside0.mk (blk_below BG.out hb)
      have V2c := Aside0.mk (Kd.R_below V2b.out hb)
      have V3c := Aside0.mk (Kd.R_below (Kd.R_bound V3.out) hb)
      have HB5 := Aside0.mk (below_step HB4.out hb)
      have hz5 := Aside0.mk hb.size
      clear hv hb
      refine ⟨_, rfl, ?_⟩
      refine hK.out _ _ ⟨((blk_cell BG.out (k * 5 + 2)).trans E2.out), ((blk_cell BG.out (k * 5 + 3)).trans E3.out), ((blk_cell BG.out (k * 5 + 4)).trans E4.out)⟩ (fun hHeld => ?_)
      clear hK K
      refine norm_ (a' := ?_) ?_ ?_
      rotate_left
      · show Act.put _ (some 35) _ = _
        simp only [Act.put, List.setIfInBounds_toArray, List.set_cons_zero, List.set_cons_succ, i64_w, i32_w]
        rfl
      obtain ⟨B2, d2, rfl⟩ := Kd.R_slice V2c.out
      obtain ⟨B3, d3, rfl⟩ := Kd.R_slice V3c.out
      obtain ⟨B4, d4, rfl⟩ := Kd.R_slice V4.out
      have m2 := (blk_cell BG.out (k * 5 + 2)).trans E2.out
      have m3 := (blk_cell BG.out (k * 5 + 3)).trans E3.out
      have m4 := (blk_cell BG.out (k * 5 + 4)).trans E4.out
      have n2 := blk_frozen BG.out (k * 5 + 2)
      have n3 := blk_frozen BG.out (k * 5 + 3)
      have n4 := blk_frozen BG.out (k * 5 + 4)
      refine pure_ (i := 24) (N := some 36) (v := ?_) (a' := ?_) #[true, true, true, true, true, true, true, true, true, true, true, true, true, true, true, true, true, true, true, true, true, true, true, true, true, false, false, false, false, false, false, false, false] rfl rfl (any_of rfl (by kernel_rfl)) (fun _ _ _ h => h) (Or.inl ⟨by rfl, ?_⟩) ?_ ?_
      rotate_left
      · intro w'
        go_simp
        with_reducible rfl
      rotate_left
      · simp only [Act.put, List.setIfInBounds_toArray, List.set_cons_zero, List.set_cons_succ, i64_w, i32_w]
        rfl
      refine pure_ (i := 25) (N := some 37) (v := ?_) (a' := ?_) #[true, true, true, true, true, true, true, true, true, true, true, true, true, true, true, true, true, true, true, true, true, true, true, true, true, true, false, false, false, false, false, false, false] rfl rfl (any_of rfl (by kernel_rfl)) (fun _ _ _ h => h) (Or.inl ⟨by rfl, ?_⟩) ?_ ?_
      rotate_left
      · intro w'
        go_simp
        with_reducible rfl
      rotate_left
      · simp only [Act.put, List.setIfInBounds_toArray, List.set_cons_zero, List.set_cons_succ, i64_w, i32_w]
        rfl
      refine last_ (i := 26) (N := none) #[true, true, true, true, true, true, true, true, true, true, true, true, true, true, true, true, true, true, true, true, true, true, true, true, true, true, true, false, false, false, false, false, false] rfl rfl (one_of rfl (by kernel_rfl)) (by decide) (fun K hK => ?_)
      refine skip_ (w1 := w5.setCell ⟨g, k * 5 + 2, none⟩ (.slice B2 x.f2.length d2)) (by rfl) rfl ?_ ?_
      · go_simp
        try rfl
      refine hK.out _ _ ?_
      clear hK K
      refine pure_ (i := 27) (N := some 38) (v := ?_) (a' := ?_) #[true, true, true, true, true, true, true, true, true, true, true, true, true, true, true, true, true, true, true, true, true, true, true, true, true, true, true, true, false, false, false, false, false] rfl rfl (any_of rfl (by kernel_rfl)) (fun _ _ _ h => h) (Or.inl ⟨by rfl, ?_⟩) ?_ ?_
      rotate_left
      · intro w'
        go_simp
        with_reducible rfl
      rotate_left
      · simp only [Act.put, List.setIfInBounds_toArray, List.set_cons_zero, List.set_cons_succ, i64_w, i32_w]
        rfl
      refine pure_ (i := 28) (N := some 39) (v := ?_) (a' := ?_) #[true, true, true, true, true, true, true, true, true, true, true, true, true, true, true, true, true, true, true, true, true, true, true, true, true, true, true, true, true, false, false, false, false] rfl rfl (any_of rfl (by kernel_rfl)) (fun _ _ _ h => h) (Or.inl ⟨by rfl, ?_⟩) ?_ ?_
      rotate_left
      · intro w'
        go_simp
        with_reducible rfl
      rotate_left
      · simp only [Act.put, List.setIfInBounds_toArray, List.set_cons_zero, List.set_cons_succ, i64_w, i32_w]
        rfl
      refine last_ (i := 29) (N := none) #[true, true, true, true, true, true, true, true, true, true, true, true, true, true, true, true, true, true, true, true, true, true, true, true, true, true, true, true, true, true, false, false, false] rfl rfl (one_of rfl (by kernel_rfl)) (by decide) (fun K hK => ?_)
      refine skip_ (w1 := (w5.setCell ⟨g, k * 5 + 2, none⟩ (.slice B2 x.f2.length d2)).setCell ⟨g, k * 5 + 3, none⟩ (.slice B3 x.f3.length d3)) (by rfl) rfl ?_ ?_
      · go_simp
        try rfl
      refine hK.out _ _ ?_
      clear hK K
      refine pure_ (i := 30) (N := some 40) (v := ?_) (a' := ?_) #[true, true, true, true, true, true, true, true, true, true, true, true, true, true, true, true, true, true, true, true, true, true, true, true, true, true, true, true, true, true, true, false, false] rfl rfl (any_of rfl (by kernel_rfl)) (fun _ _ _ h => h) (Or.inl ⟨by rfl, ?_⟩) ?_ ?_
      rotate_left
      · intro w'
        go_simp
        with_reducible rfl
      rotate_left
      · simp only [Act.put, List.setIfInBounds_toArray, List.set_cons_zero, List.set_cons_succ, i64_w, i32_w]
        rfl
      refine pure_ (i := 31) (N := some 41) (v := ?_) (a' := ?_) #[true, true, true, true, true, true, true, true, true, true, true, true, true, true, true, true, true, true, true, true, true, true, true, true, true, true, true, true, true, true, true, true, false] rfl rfl (any_of rfl (by kernel_rfl)) (fun _ _ _ h => h) (Or.inl ⟨by rfl, ?_⟩) ?_ ?_
      rotate_left
      · intro w'
        go_simp
        with_reducible rfl
      rotate_left
      · simp only [Act.put, List.setIfInBounds_toArray, List.set_cons_zero, List.set_cons_succ, i64_w, i32_w]
        rfl
      refine last_ (i := 32) (N := none) #[true, true, true, true, true, true, true, true, true, true, true, true, true, true, true, true, true, true, true, true, true, true, true, true, true, true, true, true, true, true, true, true, true] rfl rfl (one_of rfl (by kernel_rfl)) (by decide) (fun K hK => ?_)
      refine skip_ (w1 := ((w5.setCell ⟨g, k * 5 + 2, none⟩ (.slice B2 x.f2.length d2)).setCell ⟨g, k * 5 + 3, none⟩ (.slice B3 x.f3.length d3)).setCell ⟨g, k * 5 + 4, none⟩ (.slice B4 x.f4.length d4)) (by rfl) rfl ?_ ?_
      · go_simp
        try rfl
      refine hK.out _ _ ?_
      clear hK K
      refine done_ (done_of rfl (by kernel_rfl)) ?_
      clear m2 m3 m4 n2 n3 n4 hHeld
      have hk1 : ∀ b, b < wr.heap.size → some b ≠ (Value.slice (some ⟨g, 0, none⟩) l.length cv).ownBlock → (((w5.setCell ⟨g, k * 5 + 2, none⟩ (.slice B2 x.f2.length d2)).setCell ⟨g, k * 5 + 3, none⟩ (.slice B3 x.f3.length d3)).setCell ⟨g, k * 5 + 4, none⟩ (.slice B4 x.f4.length d4)).heap[b]? = wr.heap[b]? := by
        intro b hb hne
        have hg_ : b ≠ g := fun e_ => hne (by rw [e_]; simp [Value.ownBlock])
        rw [Below.heap_setCell _ ⟨g, k * 5 + 4, none⟩ _ b hg_, Below.heap_setCell _ ⟨g, k * 5 + 3, none⟩ _ b hg_, Below.heap_setCell _ ⟨g, k * 5 + 2, none⟩ _ b hg_]
        exact HB5.out.block b hb
      have hk2 : ∀ b, b ≠ g → (((w5.setCell ⟨g, k * 5 + 2, none⟩ (.slice B2 x.f2.length d2)).setCell ⟨g, k * 5 + 3, none⟩ (.slice B3 x.f3.length d3)).setCell ⟨g, k * 5 + 4, none⟩ (.slice B4 x.f4.length d4)).heap[b]? = w5.heap[b]? := by
        intro b hg_
        rw [Below.heap_setCell _ ⟨g, k * 5 + 4, none⟩ _ b hg_, Below.heap_setCell _ ⟨g, k * 5 + 3, none⟩ _ b hg_, Below.heap_setCell _ ⟨g, k * 5 + 2, none⟩ _ b hg_]
      have hR5 := Kd.R_below HR.out HB5.out
      obtain ⟨cx, hcl, hMx, hcc, hfr⟩ := Kd.R_elem hR5 [] (k : Int) (by omega) (by omega)
      have hgD : rows.getD (k : Int).toNat [] = _ := (by rw [Int.toNat_natCast, List.getD_eq_getElem?_getD, HROW.out]; rfl : rows.getD (k : Int).toNat [] = [.int .u8 x.f0, .int .i64 x.f1, .slice A2 x.f2.length c2, .slice A3 x.f3.length c3, .slice A4 x.f4.length c4])
      rw [hgD] at hMx
      obtain rfl := hMx.1
      have hseg := Kd.R_seg hR5 (k : Int) (by omega) (by omega) (seg := [.slice B2 x.f2.length d2, .slice B3 x.f3.length d3, .slice B4 x.f4.length d4]) (j := 2) (x' := [.int .u8 x.f0, .int .i64 x.f1, .slice B2 x.f2.length d2, .slice B3 x.f3.length d3, .slice B4 x.f4.length d4]) (okp := fun _ => False) hcl hcc (show 2 + 3 ≤ 5 from by decide) (⟨rfl, rfl, by intro u hu; simp at hu; rcases hu with rfl | rfl | rfl | rfl | rfl <;> rfl⟩) (fun _ h_ => h_.elim)
      have hz2 := HB2.out.size
      have hz3 := HB3.out.size
      have hz4' := hz4.out
      have hz5' := hz5.out
      have hzw := HB.out.size
      have hgl' := HGL.out
      have hMk : k30.M w5 w.heap.size (fun b => wr.heap.size ≤ b ∧ b < w5.heap.size) x [.int .u8 x.f0, .int .i64 x.f1, .slice B2 x.f2.length d2, .slice B3 x.f3.length d3, .slice B4 x.f4.length d4] :=
        k30_mkM _ _ _ x (Kd.R_mono (Kd.R_lower V2c.out (Nat.le_trans hzw hz2)) (fun b hb => ⟨Nat.le_trans hz2 hb.2.1, by have := hb.2.2.1; omega⟩)) (Kd.R_mono (Kd.R_lower V3c.out (Nat.le_trans hzw hz3)) (fun b hb => ⟨Nat.le_trans hz3 hb.2.1, by have := hb.2.2.1; omega⟩)) (Kd.R_mono (Kd.R_lower V4.out (Nat.le_trans hzw (by omega))) (fun b hb => ⟨by have := hb.2.1; omega, hb.2.2.1⟩))
      have hnew : CopyInv w (((w5.setCell ⟨g, k * 5 + 2, none⟩ (.slice B2 x.f2.length d2)).setCell ⟨g, k * 5 + 3, none⟩ (.slice B3 x.f3.length d3)).setCell ⟨g, k * 5 + 4, none⟩ (.slice B4 x.f4.length d4)) (.slice (some ⟨g, 0, none⟩) l.length cv) l (k + 1) := by
        have hB5 := below_step HB.out HB5.out
        refine ⟨((hB5.setCell (p := ⟨g, k * 5 + 2, none⟩) hgb _).setCell (p := ⟨g, k * 5 + 3, none⟩) hgb _).setCell (p := ⟨g, k * 5 + 4, none⟩) hgb _, rows.set k [.int .u8 x.f0, .int .i64 x.f1, .slice B2 x.f2.length d2, .slice B3 x.f3.length d3, .slice B4 x.f4.length d4], fun j b => (j ≠ k ∧ okj j b) ∨ (j = k ∧ wr.heap.size ≤ b ∧ b < w5.heap.size), by rw [List.length_set]; exact HRL.out, ?_, ?_, ?_, ?_, ?_⟩
        · have h_ := hseg.1
          rw [Int.toNat_natCast] at h_
          exact h_
        · intro i j b h1 h2
          rcases h1 with ⟨h1a, h1b⟩ | ⟨h1a, h1b, h1c⟩ <;> rcases h2 with ⟨h2a, h2b⟩ | ⟨h2a, h2b, h2c⟩
          · exact HAP.out i j b h1b h2b
          · have := (HOK.out i b h1b).2.1; omega
          · have := (HOK.out j b h2b).2.1; omega
          · omega
        · intro j b h1
          have hz6 : (((w5.setCell ⟨g, k * 5 + 2, none⟩ (.slice B2 x.f2.length d2)).setCell ⟨g, k * 5 + 3, none⟩ (.slice B3 x.f3.length d3)).setCell ⟨g, k * 5 + 4, none⟩ (.slice B4 x.f4.length d4)).heap.size = w5.heap.size := by simp [World.setCell]
          rw [hz6]
          have hz51 := HB5.out.size
          rcases h1 with ⟨h1a, h1b⟩ | ⟨h1a, h1b, h1c⟩
          · obtain ⟨o1, o2, o3⟩ := HOK.out j b h1b
            exact ⟨o1, by omega, o3⟩
          · exact ⟨by omega, h1c, fun e_ => by simp [Value.ownBlock] at e_; omega⟩
        · intro j y cc hj hy hcy
          by_cases hjk : j = k
          · subst hjk
            rw [List.getElem?_set_self (by rw [HRL.out]; exact hlt)] at hcy
            obtain rfl := Option.some.inj hcy
            have hyx : y = x := Option.some.inj (hy.symm.trans HX.out)
            subst hyx
            exact k30.M_mono (fun b hb => .inr ⟨rfl, hb⟩) (Kd.M_step hMk (fun b hb _ => hk2 b (fun e_ => by omega)))
          · rw [List.getElem?_set_ne (Ne.symm hjk)] at hcy
            exact k30.M_mono (fun b hb => .inl ⟨hjk, hb⟩) (Kd.M_step (HM.out j y cc (by omega) hy hcy) (fun b hb hlt2 => hk1 b hlt2 (HOK.out j b hb).2.2))
        · intro j y cc hj hy hcy
          rw [List.getElem?_set_ne (by omega)] at hcy
          exact Kd.FK_step (HF.out j y cc (by omega) hy hcy) (fun b hb hlt2 => hk1 b hlt2 hb)
      have HNEW := Aside0.mk hnew
      clear hnew hMk hseg hk1 hk2 hcc hfr hcl hMx hgD hR5 hz2 hz3 hz4' hz5' hzw hgl'
      go_wp2_with fail
      go_roundw
      case rel => exact ⟨k + 1, by omega, by go_num, HNEW⟩
      case measure => simp [intOf]; omega
    · obtain rfl : k = l.length := by omega
      go_wp2_with fail
      go_ret
      obtain ⟨h1, h2⟩ := HI.out.stop
      exact ⟨_, rfl, h1, h2⟩
end Go.Proofs.Ytmjeoknamoegpaa.P
