-- by hand (printed by wip/tools/gen_ops.py): normal.New, (*normal.Maker).Ops
import Derived.Test.YtmjeoknamoegpaaRet
import Derived.Test.YtmjeoknamoegpaaCopyO
namespace Go.Proofs.Ytmjeoknamoegpaa.P
open Go.RowKit Go.Proofs.YtmjeoknamoegpaaW.PrintWords Go.Proofs.YtmjeoknamoegpaaW.PrintLast Go.Proofs.YtmjeoknamoegpaaW.PrintMore
set_option linter.unusedVariables false
set_option linter.unusedSimpArgs false
def Small (l : List S30) : Prop := ∀ x ∈ l, x.f2.length ≤ 1000000 ∧ x.f3.length ≤ 1000000 ∧ x.f4.length ≤ 1000000
theorem new_calls (w : World) : Calls Try.prog 19 #[] w fun e w' => e = .returned (.pointer (some ⟨w.heap.size, 0, none⟩)) ∧ w' = w.alloc (.cells #[.slice none 0 0, .slice none 0 0, .int .i64 0] 46) := by
  go_enter Try.func19, Try.ntmps19
  go_wp2
  go_ret
  exact ⟨rfl, rfl⟩
theorem Mk_new (w : World) (B : Nat) (hB : B ≤ w.heap.size) : Mk (w.alloc (.cells #[.slice none 0 0, .slice none 0 0, .int .i64 0] 46)) B (fun k => w.heap.size ≤ k) w.heap.size [] [] 0 :=
  ⟨_, _, fun _ => False, fun _ => False, heap_alloc_new w _, hB, Nat.le_refl _, Kd.N_nil _ _ _ _ _, Kd.S_nil _ _ _ _ _, fun _ h => h.elim, fun _ h => h.elim⟩

set_option maxHeartbeats 4000000 in
set_option maxRecDepth 100000 in
theorem ops_0 (p : Nat) (D I : List S30) (g : Int) (base : Nat) (ok : Nat → Prop) (w : World) (hM : Mk w base ok p D I g) (hIl : I.length ≤ 1000000) (hDl : D.length ≤ 1000000) (L : List S30) (hL0 : D ++ gapP I g = L) (hsm : Small L) (hL1 : L.length = 0) :
    Calls Try.prog 23 #[.pointer (some ⟨p, 0, none⟩)] w fun e w' => ∃ v : Value, e = .returned v ∧ Kd.S k30 30 w' w.heap.size (fun _ => True) v (L) ∧ Below w.heap.size w w' := by
  obtain ⟨vD, vI, okD, okI, h1, h2, h3, h4, h5, h6, h7⟩ := hM.bound
  have BK := Aside0.mk h1
  have HP := Aside0.mk (blk_lt h1)
  have HD := Aside0.mk h4
  have HI := Aside0.mk h5
  have H6 : Aside0 (∀ k, okD k → base ≤ k ∧ ok k ∧ k ≠ p ∧ k < w.heap.size) := Aside0.mk (fun k hk => ⟨(h6 k hk).1, (h6 k hk).2.1.1, (h6 k hk).2.2, (h6 k hk).2.1.2⟩)
  have H7 : Aside0 (∀ k, okI k → base ≤ k ∧ ok k ∧ k ≠ p ∧ ¬ okD k ∧ k < w.heap.size) := Aside0.mk (fun k hk => ⟨(h7 k hk).1, (h7 k hk).2.1.1, (h7 k hk).2.2.1, (h7 k hk).2.2.2, (h7 k hk).2.1.2⟩)
  have H3 := Aside0.mk h3.1
  have HK := Aside0.mk (Kept.refl w ok)
  have HB := Aside0.mk (Below.refl w.heap.size w)
  have HZ := Aside0.mk (Nat.le_refl w.heap.size)
  obtain ⟨Ai, ci, hvI⟩ := Kd.S_slice h5
  obtain ⟨Ad, cd, hvD⟩ := Kd.N_slice h4
  subst hvI
  subst hvD
  have c0 : w.cell? ⟨p, 0, none⟩ = some (.slice Ad D.length cd) := (blk_cell h1 0).trans rfl
  have HL0 := Aside0.mk hL0
  have HL1 := Aside0.mk hL1
  have hLl : L.length ≤ 3000000 := by have := gapP_len I g; rw [← hL0, List.length_append]; omega
  clear h1 h3 h4 h5 h6 h7 hM hL0 hL1 HK
  go_enter Try.func23, Try.ntmps23
  go_wp2_with fail
  refine start_ (n := 9) (S := fun w' => w'.cell? ⟨p, 0, none⟩ = some (.slice Ad D.length cd)) (ds := []) #[false, false, false, false, false, false, false, false, false] (by kernel_rfl) rfl rfl ((blk_cell (w := w.drew) BK.out 0).trans rfl) (fun hHeld => ?_)
  have hb := below_drew (Below.refl w.heap.size w)
  generalize w.drew = w2 at hb hHeld ⊢
  replace BK := Aside0.mk (blk_below BK.out hb)
  replace HD := Aside0.mk (Kd.N_below HD.out hb)
  replace HB := Aside0.mk (below_step HB.out hb)
  replace HI := Aside0.mk (Kd.S_below HI.out hb)
  clear hb
  refine pure_ (i := 0) (N := some 7) (v := ?_) (a' := ?_) #[true, false, false, false, false, false, false, false, false] rfl rfl (any_of rfl (by kernel_rfl)) (fun _ _ _ h => h) (Or.inl ⟨by rfl, ?_⟩) ?_ ?_
  rotate_left
  · intro w'
    go_simp
    with_reducible rfl
  rotate_left
  · simp only [Act.put, List.setIfInBounds_toArray, List.set_cons_zero, List.set_cons_succ, i64_w, i32_w]
    rfl
  refine pure_ (i := 1) (N := some 8) (v := ?_) (a' := ?_) #[true, true, false, false, false, false, false, false, false] rfl rfl (any_of rfl (by kernel_rfl)) (fun _ _ _ h => h) (Or.inl ⟨by rfl, ?_⟩) ?_ ?_
  rotate_left
  · intro w'
    go_simp
    with_reducible rfl
  rotate_left
  · simp only [Act.put, List.setIfInBounds_toArray, List.set_cons_zero, List.set_cons_succ, i64_w, i32_w]
    rfl
  refine pure_ (i := 2) (N := some 9) (v := ?_) (a' := ?_) #[true, true, true, false, false, false, false, false, false] rfl rfl (any_of rfl (by kernel_rfl)) (fun _ _ _ h => h) (Or.inl ⟨by rfl, ?_⟩) ?_ ?_
  rotate_left
  · intro w'
    go_simp
    with_reducible rfl
  rotate_left
  · simp only [Act.put, List.setIfInBounds_toArray, List.set_cons_zero, List.set_cons_succ, i64_w, i32_w]
    rfl
  refine pure_ (i := 4) (N := some 11) (v := ?_) (a' := ?_) #[true, true, true, false, true, false, false, false, false] rfl rfl (any_of rfl (by kernel_rfl)) (fun _ _ _ h => h) (Or.inl ⟨by rfl, ?_⟩) ?_ ?_
  rotate_left
  · intro w'
    go_simp
    with_reducible rfl
  rotate_left
  · simp only [Act.put, List.setIfInBounds_toArray, List.set_cons_zero, List.set_cons_succ, i64_w, i32_w]
    rfl
  refine take_ (i := 3) (N := some 10) (v := ?_) (a' := ?_) #[true, true, true, true, true, false, false, false, false] rfl rfl (take_of rfl (by kernel_rfl)) (fun _ _ _ h => h) (Or.inl ⟨by rfl, ?_⟩) hHeld ?_ ?_
  rotate_left
  · rintro w' s0
    go_simp
    with_reducible rfl
  rotate_left
  · simp only [Act.put, List.setIfInBounds_toArray, List.set_cons_zero, List.set_cons_succ, i64_w, i32_w]
    rfl
  refine one_ (i := 5) (N := some 12) #[true, true, true, true, true, true, false, false, false] rfl rfl (one_of rfl (by kernel_rfl)) (by decide) (fun K hK => ?_)
  refine goes_ Try.func35 (by kernel_rfl) rfl #[.pointer (some ⟨p, 0, none⟩)] (by rfl) rfl rfl (by (try simp only [List.map_toArray, List.map_cons, List.map_nil]); first | done | rfl) ?_
  refine (gap_calls p Ai ci I g okI w2 ((blk_cell BK.out 1).trans rfl) ((blk_cell BK.out 2).trans rfl) (Kd.S_V HI.out) hIl).mono ?_
  rintro e w3 ⟨vg, rfl, hN, hb⟩
  obtain ⟨Ag, cg, rfl⟩ := Kd.N_slice hN
  have HN := Aside0.mk hN
  replace BK := Aside0.mk (blk_below BK.out hb)
  replace HD := Aside0.mk (Kd.N_below HD.out hb)
  replace HB := Aside0.mk (below_step HB.out hb)
  clear hN hb HI
  refine ⟨_, rfl, ?_⟩
  refine hK.out _ _ ((blk_cell BK.out 0).trans rfl) (fun hHeld => ?_)
  clear hK K
  refine norm_ (a' := ?_) ?_ ?_
  rotate_left
  · show Act.put _ (some 12) _ = _
    simp only [Act.put, List.setIfInBounds_toArray, List.set_cons_zero, List.set_cons_succ, i64_w, i32_w]
    rfl
  refine one_ (i := 6) (N := some 13) #[true, true, true, true, true, true, true, false, false] rfl rfl (one_of rfl (by kernel_rfl)) (by decide) (fun K hK => ?_)
  refine value_ (w1 := w3.alloc (.cells #[.slice Ad D.length cd, .slice Ag (gapP I g).length cg] 23)) (v := .slice (some ⟨w3.heap.size, 0, none⟩) 2 2) (by rfl) rfl ?_ ?_
  · go_simp
    try rfl
  refine hK.out _ _ ((blk_cell (blk_alloc BK.out _) 0).trans rfl) (fun hHeld => ?_)
  clear hK K
  refine norm_ (a' := ?_) ?_ ?_
  rotate_left
  · show Act.put _ (some 13) _ = _
    simp only [Act.put, List.setIfInBounds_toArray, List.set_cons_zero, List.set_cons_succ, i64_w, i32_w]
    rfl
  have hb := below_alloc (Below.refl w3.heap.size w3) (.cells #[.slice Ad D.length cd, .slice Ag (gapP I g).length cg] 23)
  have BN := Aside0.mk (heap_alloc_new w3 (.cells #[.slice Ad D.length cd, .slice Ag (gapP I g).length cg] 23))
  replace BK := Aside0.mk (blk_below BK.out hb)
  replace HD := Aside0.mk (Kd.N_below HD.out hb)
  replace HB := Aside0.mk (below_step HB.out hb)
  have FD := Aside0.mk (Kd.F_mono (ok' := fun _ => True) (Kd.N_F HD.out) (fun _ _ => trivial))
  have FG := Aside0.mk (Kd.F_mono (ok' := fun _ => True) (Kd.N_F (Kd.N_below HN.out hb)) (fun _ _ => trivial))
  clear hb HN hHeld
  refine one_ (i := 7) (N := some 14) #[true, true, true, true, true, true, true, true, false] rfl rfl (one_of rfl (by kernel_rfl)) (by decide) (fun K hK => ?_)
  refine goes_ Try.func39 (by kernel_rfl) rfl #[.slice (some ⟨w3.heap.size, 0, none⟩) 2 2] (by rfl) rfl rfl (by (try simp only [List.map_toArray, List.map_cons, List.map_nil]); first | done | rfl) ?_
  refine (concat_calls w3.heap.size Ad cd D Ag cg (gapP I g) (fun _ => True) _ ((blk_cell BN.out 0).trans rfl) ((blk_cell BN.out 1).trans rfl) FD.out FG.out (by have := gapP_len I g; omega)).mono ?_
  rintro e w4 ⟨vl, rfl, hN, hb⟩
  rw [HL0.out] at hN
  obtain ⟨Al, cl, rfl⟩ := Kd.N_slice hN
  rw [HL1.out] at hN ⊢
  have HN := Aside0.mk hN
  replace BK := Aside0.mk (blk_below BK.out hb)
  replace HD := Aside0.mk (Kd.N_below HD.out hb)
  replace HB := Aside0.mk (below_step HB.out hb)
  clear hN hb HD BN FD FG
  refine ⟨_, rfl, ?_⟩
  refine hK.out _ _ ((blk_cell BK.out 0).trans rfl) (fun hHeld => ?_)
  clear hK K
  refine norm_ (a' := ?_) ?_ ?_
  rotate_left
  · show Act.put _ (some 14) _ = _
    simp only [Act.put, List.setIfInBounds_toArray, List.set_cons_zero, List.set_cons_succ, i64_w, i32_w]
    rfl
  refine pure_ (i := 8) (N := some 3) (v := ?_) (a' := ?_) #[true, true, true, true, true, true, true, true, true] rfl rfl (any_of rfl (by kernel_rfl)) (fun _ _ _ h => h) (Or.inl ⟨by rfl, ?_⟩) ?_ ?_
  rotate_left
  · intro w'
    go_simp
    with_reducible rfl
  rotate_left
  · simp only [Act.put, List.setIfInBounds_toArray, List.set_cons_zero, List.set_cons_succ, i64_w, i32_w]
    rfl
  refine done_ (done_of rfl (by kernel_rfl)) ?_
  clear c0
  have hCL := (Kd.N_reads' HN.out).2
  have hC4 := copyO_calls Al cl L w4 hCL.2 (by have h_ := hCL.1; rw [HL1.out] ; exact h_) hLl hsm
  rw [HL1.out] at hC4
  have HC4 := Aside0.mk hC4
  clear hCL hC4
  go_wp2_with fail
  go_at_call 40
  refine HC4.out.mono ?_
  rintro e w5 ⟨v, rfl, hS, hb⟩
  have HS := Aside0.mk (Kd.S_lower hS HB.out.size)
  have HBB := Aside0.mk (below_step HB.out hb)
  clear hS hb HN HB
  go_wp2_with fail
  go_ret
  exact ⟨_, rfl, HS.out, HBB.out⟩

set_option maxHeartbeats 4000000 in
set_option maxRecDepth 100000 in
theorem ops_1 (p : Nat) (D I : List S30) (g : Int) (base : Nat) (ok : Nat → Prop) (w : World) (hM : Mk w base ok p D I g) (hIl : I.length ≤ 1000000) (hDl : D.length ≤ 1000000) (L : List S30) (hL0 : D ++ gapP I g = L) (hsm : Small L) (m : Nat) (o : S30) (hL1 : L.length = m + 1) (ho : L[m]? = some o) (hk : o.f0 ≠ 1) :
    Calls Try.prog 23 #[.pointer (some ⟨p, 0, none⟩)] w fun e w' => ∃ v : Value, e = .returned v ∧ Kd.S k30 30 w' w.heap.size (fun _ => True) v (L) ∧ Below w.heap.size w w' := by
  obtain ⟨vD, vI, okD, okI, h1, h2, h3, h4, h5, h6, h7⟩ := hM.bound
  have BK := Aside0.mk h1
  have HP := Aside0.mk (blk_lt h1)
  have HD := Aside0.mk h4
  have HI := Aside0.mk h5
  have H6 : Aside0 (∀ k, okD k → base ≤ k ∧ ok k ∧ k ≠ p ∧ k < w.heap.size) := Aside0.mk (fun k hk => ⟨(h6 k hk).1, (h6 k hk).2.1.1, (h6 k hk).2.2, (h6 k hk).2.1.2⟩)
  have H7 : Aside0 (∀ k, okI k → base ≤ k ∧ ok k ∧ k ≠ p ∧ ¬ okD k ∧ k < w.heap.size) := Aside0.mk (fun k hk => ⟨(h7 k hk).1, (h7 k hk).2.1.1, (h7 k hk).2.2.1, (h7 k hk).2.2.2, (h7 k hk).2.1.2⟩)
  have H3 := Aside0.mk h3.1
  have HK := Aside0.mk (Kept.refl w ok)
  have HB := Aside0.mk (Below.refl w.heap.size w)
  have HZ := Aside0.mk (Nat.le_refl w.heap.size)
  obtain ⟨Ai, ci, hvI⟩ := Kd.S_slice h5
  obtain ⟨Ad, cd, hvD⟩ := Kd.N_slice h4
  subst hvI
  subst hvD
  have c0 : w.cell? ⟨p, 0, none⟩ = some (.slice Ad D.length cd) := (blk_cell h1 0).trans rfl
  have HL0 := Aside0.mk hL0
  have HL1 := Aside0.mk hL1
  have hLl : L.length ≤ 3000000 := by have := gapP_len I g; rw [← hL0, List.length_append]; omega
  clear h1 h3 h4 h5 h6 h7 hM hL0 hL1 HK
  have HO_ := Aside0.mk ho
  clear ho
  have hm1 : m + 1 ≤ 3000000 := by have := HL1.out; omega
  have hkb : (o.f0 == 1) = false := beq_eq_false_iff_ne.2 hk
  clear hk
  go_enter Try.func23, Try.ntmps23
  go_wp2_with fail
  refine start_ (n := 9) (S := fun w' => w'.cell? ⟨p, 0, none⟩ = some (.slice Ad D.length cd)) (ds := []) #[false, false, false, false, false, false, false, false, false] (by kernel_rfl) rfl rfl ((blk_cell (w := w.drew) BK.out 0).trans rfl) (fun hHeld => ?_)
  have hb := below_drew (Below.refl w.heap.size w)
  generalize w.drew = w2 at hb hHeld ⊢
  replace BK := Aside0.mk (blk_below BK.out hb)
  replace HD := Aside0.mk (Kd.N_below HD.out hb)
  replace HB := Aside0.mk (below_step HB.out hb)
  replace HI := Aside0.mk (Kd.S_below HI.out hb)
  clear hb
  refine pure_ (i := 0) (N := some 7) (v := ?_) (a' := ?_) #[true, false, false, false, false, false, false, false, false] rfl rfl (any_of rfl (by kernel_rfl)) (fun _ _ _ h => h) (Or.inl ⟨by rfl, ?_⟩) ?_ ?_
  rotate_left
  · intro w'
    go_simp
    with_reducible rfl
  rotate_left
  · simp only [Act.put, List.setIfInBounds_toArray, List.set_cons_zero, List.set_cons_succ, i64_w, i32_w]
    rfl
  refine pure_ (i := 1) (N := some 8) (v := ?_) (a' := ?_) #[true, true, false, false, false, false, false, false, false] rfl rfl (any_of rfl (by kernel_rfl)) (fun _ _ _ h => h) (Or.inl ⟨by rfl, ?_⟩) ?_ ?_
  rotate_left
  · intro w'
    go_simp
    with_reducible rfl
  rotate_left
  · simp only [Act.put, List.setIfInBounds_toArray, List.set_cons_zero, List.set_cons_succ, i64_w, i32_w]
    rfl
  refine pure_ (i := 2) (N := some 9) (v := ?_) (a' := ?_) #[true, true, true, false, false, false, false, false, false] rfl rfl (any_of rfl (by kernel_rfl)) (fun _ _ _ h => h) (Or.inl ⟨by rfl, ?_⟩) ?_ ?_
  rotate_left
  · intro w'
    go_simp
    with_reducible rfl
  rotate_left
  · simp only [Act.put, List.setIfInBounds_toArray, List.set_cons_zero, List.set_cons_succ, i64_w, i32_w]
    rfl
  refine pure_ (i := 4) (N := some 11) (v := ?_) (a' := ?_) #[true, true, true, false, true, false, false, false, false] rfl rfl (any_of rfl (by kernel_rfl)) (fun _ _ _ h => h) (Or.inl ⟨by rfl, ?_⟩) ?_ ?_
  rotate_left
  · intro w'
    go_simp
    with_reducible rfl
  rotate_left
  · simp only [Act.put, List.setIfInBounds_toArray, List.set_cons_zero, List.set_cons_succ, i64_w, i32_w]
    rfl
  refine take_ (i := 3) (N := some 10) (v := ?_) (a' := ?_) #[true, true, true, true, true, false, false, false, false] rfl rfl (take_of rfl (by kernel_rfl)) (fun _ _ _ h => h) (Or.inl ⟨by rfl, ?_⟩) hHeld ?_ ?_
  rotate_left
  · rintro w' s0
    go_simp
    with_reducible rfl
  rotate_left
  · simp only [Act.put, List.setIfInBounds_toArray, List.set_cons_zero, List.set_cons_succ, i64_w, i32_w]
    rfl
  refine one_ (i := 5) (N := some 12) #[true, true, true, true, true, true, false, false, false] rfl rfl (one_of rfl (by kernel_rfl)) (by decide) (fun K hK => ?_)
  refine goes_ Try.func35 (by kernel_rfl) rfl #[.pointer (some ⟨p, 0, none⟩)] (by rfl) rfl rfl (by (try simp only [List.map_toArray, List.map_cons, List.map_nil]); first | done | rfl) ?_
  refine (gap_calls p Ai ci I g okI w2 ((blk_cell BK.out 1).trans rfl) ((blk_cell BK.out 2).trans rfl) (Kd.S_V HI.out) hIl).mono ?_
  rintro e w3 ⟨vg, rfl, hN, hb⟩
  obtain ⟨Ag, cg, rfl⟩ := Kd.N_slice hN
  have HN := Aside0.mk hN
  replace BK := Aside0.mk (blk_below BK.out hb)
  replace HD := Aside0.mk (Kd.N_below HD.out hb)
  replace HB := Aside0.mk (below_step HB.out hb)
  clear hN hb HI
  refine ⟨_, rfl, ?_⟩
  refine hK.out _ _ ((blk_cell BK.out 0).trans rfl) (fun hHeld => ?_)
  clear hK K
  refine norm_ (a' := ?_) ?_ ?_
  rotate_left
  · show Act.put _ (some 12) _ = _
    simp only [Act.put, List.setIfInBounds_toArray, List.set_cons_zero, List.set_cons_succ, i64_w, i32_w]
    rfl
  refine one_ (i := 6) (N := some 13) #[true, true, true, true, true, true, true, false, false] rfl rfl (one_of rfl (by kernel_rfl)) (by decide) (fun K hK => ?_)
  refine value_ (w1 := w3.alloc (.cells #[.slice Ad D.length cd, .slice Ag (gapP I g).length cg] 23)) (v := .slice (some ⟨w3.heap.size, 0, none⟩) 2 2) (by rfl) rfl ?_ ?_
  · go_simp
    try rfl
  refine hK.out _ _ ((blk_cell (blk_alloc BK.out _) 0).trans rfl) (fun hHeld => ?_)
  clear hK K
  refine norm_ (a' := ?_) ?_ ?_
  rotate_left
  · show Act.put _ (some 13) _ = _
    simp only [Act.put, List.setIfInBounds_toArray, List.set_cons_zero, List.set_cons_succ, i64_w, i32_w]
    rfl
  have hb := below_alloc (Below.refl w3.heap.size w3) (.cells #[.slice Ad D.length cd, .slice Ag (gapP I g).length cg] 23)
  have BN := Aside0.mk (heap_alloc_new w3 (.cells #[.slice Ad D.length cd, .slice Ag (gapP I g).length cg] 23))
  replace BK := Aside0.mk (blk_below BK.out hb)
  replace HD := Aside0.mk (Kd.N_below HD.out hb)
  replace HB := Aside0.mk (below_step HB.out hb)
  have FD := Aside0.mk (Kd.F_mono (ok' := fun _ => True) (Kd.N_F HD.out) (fun _ _ => trivial))
  have FG := Aside0.mk (Kd.F_mono (ok' := fun _ => True) (Kd.N_F (Kd.N_below HN.out hb)) (fun _ _ => trivial))
  clear hb HN hHeld
  refine one_ (i := 7) (N := some 14) #[true, true, true, true, true, true, true, true, false] rfl rfl (one_of rfl (by kernel_rfl)) (by decide) (fun K hK => ?_)
  refine goes_ Try.func39 (by kernel_rfl) rfl #[.slice (some ⟨w3.heap.size, 0, none⟩) 2 2] (by rfl) rfl rfl (by (try simp only [List.map_toArray, List.map_cons, List.map_nil]); first | done | rfl) ?_
  refine (concat_calls w3.heap.size Ad cd D Ag cg (gapP I g) (fun _ => True) _ ((blk_cell BN.out 0).trans rfl) ((blk_cell BN.out 1).trans rfl) FD.out FG.out (by have := gapP_len I g; omega)).mono ?_
  rintro e w4 ⟨vl, rfl, hN, hb⟩
  rw [HL0.out] at hN
  obtain ⟨Al, cl, rfl⟩ := Kd.N_slice hN
  rw [HL1.out] at hN ⊢
  have HN := Aside0.mk hN
  replace BK := Aside0.mk (blk_below BK.out hb)
  replace HD := Aside0.mk (Kd.N_below HD.out hb)
  replace HB := Aside0.mk (below_step HB.out hb)
  clear hN hb HD BN FD FG
  refine ⟨_, rfl, ?_⟩
  refine hK.out _ _ ((blk_cell BK.out 0).trans rfl) (fun hHeld => ?_)
  clear hK K
  refine norm_ (a' := ?_) ?_ ?_
  rotate_left
  · show Act.put _ (some 14) _ = _
    simp only [Act.put, List.setIfInBounds_toArray, List.set_cons_zero, List.set_cons_succ, i64_w, i32_w]
    rfl
  refine pure_ (i := 8) (N := some 3) (v := ?_) (a' := ?_) #[true, true, true, true, true, true, true, true, true] rfl rfl (any_of rfl (by kernel_rfl)) (fun _ _ _ h => h) (Or.inl ⟨by rfl, ?_⟩) ?_ ?_
  rotate_left
  · intro w'
    go_simp
    with_reducible rfl
  rotate_left
  · simp only [Act.put, List.setIfInBounds_toArray, List.set_cons_zero, List.set_cons_succ, i64_w, i32_w]
    rfl
  refine done_ (done_of rfl (by kernel_rfl)) ?_
  clear c0
  obtain ⟨gD, capD, hvD, _, hgl, cellsD, hcD⟩ := Kd.N_form HN.out (by have := HL1.out; omega)
  injection hvD with hA1 hlen_ hc1
  clear hlen_
  subst hA1
  subst hc1
  obtain ⟨ce, _, hFK, hcc, _⟩ := Kd.N_elem HN.out z30 (m : Int) (by omega) (by omega)
  have hgetD : L.getD (m : Int).toNat z30 = o := by rw [Int.toNat_natCast, List.getD_eq_getElem?_getD, HO_.out]; rfl
  rw [hgetD] at hFK
  obtain ⟨A2, c2, A3, c3, A4, c4, rfl, _, _, _, _, hl4, hF4⟩ := k30_openF hFK
  have e0 : w4.cell? ⟨gD, m * 5, none⟩ = some (.int .u8 o.f0) := hcc 0 _ rfl
  have e4 : w4.cell? ⟨gD, m * 5 + 4, none⟩ = some (.slice A4 o.f4.length c4) := hcc 4 _ rfl
  have q0 : (0 : Int) ≤ (m : Int) := Int.natCast_nonneg m
  have q1 : (m : Int) < (m : Int) + 1 := by omega
  clear hFK hcc hgetD hl4 hF4 hcD
  have hCL := (Kd.N_reads' HN.out).2
  have hC4 := copyO_calls (some ⟨gD, 0, none⟩) cl L w4 hCL.2 (by have h_ := hCL.1; rw [HL1.out] ; exact h_) hLl hsm
  rw [HL1.out] at hC4
  have HC4 := Aside0.mk hC4
  clear hCL hC4
  go_wp2_with fail
  go_at_call 40
  refine HC4.out.mono ?_
  rintro e w5 ⟨v, rfl, hS, hb⟩
  have HS := Aside0.mk (Kd.S_lower hS HB.out.size)
  have HBB := Aside0.mk (below_step HB.out hb)
  clear hS hb HN HB
  go_wp2_with fail
  go_ret
  exact ⟨_, rfl, HS.out, HBB.out⟩

set_option maxHeartbeats 4000000 in
set_option maxRecDepth 100000 in
theorem ops_2 (p : Nat) (D I : List S30) (g : Int) (base : Nat) (ok : Nat → Prop) (w : World) (hM : Mk w base ok p D I g) (hIl : I.length ≤ 1000000) (hDl : D.length ≤ 1000000) (L : List S30) (hL0 : D ++ gapP I g = L) (hsm : Small L) (m : Nat) (o : S30) (hL1 : L.length = m + 1) (ho : L[m]? = some o) (hk : o.f0 = 1) (hp : o.f4.length ≠ 0) :
    Calls Try.prog 23 #[.pointer (some ⟨p, 0, none⟩)] w fun e w' => ∃ v : Value, e = .returned v ∧ Kd.S k30 30 w' w.heap.size (fun _ => True) v (L) ∧ Below w.heap.size w w' := by
  obtain ⟨vD, vI, okD, okI, h1, h2, h3, h4, h5, h6, h7⟩ := hM.bound
  have BK := Aside0.mk h1
  have HP := Aside0.mk (blk_lt h1)
  have HD := Aside0.mk h4
  have HI := Aside0.mk h5
  have H6 : Aside0 (∀ k, okD k → base ≤ k ∧ ok k ∧ k ≠ p ∧ k < w.heap.size) := Aside0.mk (fun k hk => ⟨(h6 k hk).1, (h6 k hk).2.1.1, (h6 k hk).2.2, (h6 k hk).2.1.2⟩)
  have H7 : Aside0 (∀ k, okI k → base ≤ k ∧ ok k ∧ k ≠ p ∧ ¬ okD k ∧ k < w.heap.size) := Aside0.mk (fun k hk => ⟨(h7 k hk).1, (h7 k hk).2.1.1, (h7 k hk).2.2.1, (h7 k hk).2.2.2, (h7 k hk).2.1.2⟩)
  have H3 := Aside0.mk h3.1
  have HK := Aside0.mk (Kept.refl w ok)
  have HB := Aside0.mk (Below.refl w.heap.size w)
  have HZ := Aside0.mk (Nat.le_refl w.heap.size)
  obtain ⟨Ai, ci, hvI⟩ := Kd.S_slice h5
  obtain ⟨Ad, cd, hvD⟩ := Kd.N_slice h4
  subst hvI
  subst hvD
  have c0 : w.cell? ⟨p, 0, none⟩ = some (.slice Ad D.length cd) := (blk_cell h1 0).trans rfl
  have HL0 := Aside0.mk hL0
  have HL1 := Aside0.mk hL1
  have hLl : L.length ≤ 3000000 := by have := gapP_len I g; rw [← hL0, List.length_append]; omega
  clear h1 h3 h4 h5 h6 h7 hM hL0 hL1 HK
  have HO_ := Aside0.mk ho
  clear ho
  have hm1 : m + 1 ≤ 3000000 := by have := HL1.out; omega
  have hkb : (o.f0 == 1) = true := beq_iff_eq.2 hk
  have hpb : ((o.f4.length : Int) == 0) = false := beq_eq_false_iff_ne.2 (by omega)
  clear hk hp
  go_enter Try.func23, Try.ntmps23
  go_wp2_with fail
  refine start_ (n := 9) (S := fun w' => w'.cell? ⟨p, 0, none⟩ = some (.slice Ad D.length cd)) (ds := []) #[false, false, false, false, false, false, false, false, false] (by kernel_rfl) rfl rfl ((blk_cell (w := w.drew) BK.out 0).trans rfl) (fun hHeld => ?_)
  have hb := below_drew (Below.refl w.heap.size w)
  generalize w.drew = w2 at hb hHeld ⊢
  replace BK := Aside0.mk (blk_below BK.out hb)
  replace HD := Aside0.mk (Kd.N_below HD.out hb)
  replace HB := Aside0.mk (below_step HB.out hb)
  replace HI := Aside0.mk (Kd.S_below HI.out hb)
  clear hb
  refine pure_ (i := 0) (N := some 7) (v := ?_) (a' := ?_) #[true, false, false, false, false, false, false, false, false] rfl rfl (any_of rfl (by kernel_rfl)) (fun _ _ _ h => h) (Or.inl ⟨by rfl, ?_⟩) ?_ ?_
  rotate_left
  · intro w'
    go_simp
    with_reducible rfl
  rotate_left
  · simp only [Act.put, List.setIfInBounds_toArray, List.set_cons_zero, List.set_cons_succ, i64_w, i32_w]
    rfl
  refine pure_ (i := 1) (N := some 8) (v := ?_) (a' := ?_) #[true, true, false, false, false, false, false, false, false] rfl rfl (any_of rfl (by kernel_rfl)) (fun _ _ _ h => h) (Or.inl ⟨by rfl, ?_⟩) ?_ ?_
  rotate_left
  · intro w'
    go_simp
    with_reducible rfl
  rotate_left
  · simp only [Act.put, List.setIfInBounds_toArray, List.set_cons_zero, List.set_cons_succ, i64_w, i32_w]
    rfl
  refine pure_ (i := 2) (N := some 9) (v := ?_) (a' := ?_) #[true, true, true, false, false, false, false, false, false] rfl rfl (any_of rfl (by kernel_rfl)) (fun _ _ _ h => h) (Or.inl ⟨by rfl, ?_⟩) ?_ ?_
  rotate_left
  · intro w'
    go_simp
    with_reducible rfl
  rotate_left
  · simp only [Act.put, List.setIfInBounds_toArray, List.set_cons_zero, List.set_cons_succ, i64_w, i32_w]
    rfl
  refine pure_ (i := 4) (N := some 11) (v := ?_) (a' := ?_) #[true, true, true, false, true, false, false, false, false] rfl rfl (any_of rfl (by kernel_rfl)) (fun _ _ _ h => h) (Or.inl ⟨by rfl, ?_⟩) ?_ ?_
  rotate_left
  · intro w'
    go_simp
    with_reducible rfl
  rotate_left
  · simp only [Act.put, List.setIfInBounds_toArray, List.set_cons_zero, List.set_cons_succ, i64_w, i32_w]
    rfl
  refine take_ (i := 3) (N := some 10) (v := ?_) (a' := ?_) #[true, true, true, true, true, false, false, false, false] rfl rfl (take_of rfl (by kernel_rfl)) (fun _ _ _ h => h) (Or.inl ⟨by rfl, ?_⟩) hHeld ?_ ?_
  rotate_left
  · rintro w' s0
    go_simp
    with_reducible rfl
  rotate_left
  · simp only [Act.put, List.setIfInBounds_toArray, List.set_cons_zero, List.set_cons_succ, i64_w, i32_w]
    rfl
  refine one_ (i := 5) (N := some 12) #[true, true, true, true, true, true, false, false, false] rfl rfl (one_of rfl (by kernel_rfl)) (by decide) (fun K hK => ?_)
  refine goes_ Try.func35 (by kernel_rfl) rfl #[.pointer (some ⟨p, 0, none⟩)] (by rfl) rfl rfl (by (try simp only [List.map_toArray, List.map_cons, List.map_nil]); first | done | rfl) ?_
  refine (gap_calls p Ai ci I g okI w2 ((blk_cell BK.out 1).trans rfl) ((blk_cell BK.out 2).trans rfl) (Kd.S_V HI.out) hIl).mono ?_
  rintro e w3 ⟨vg, rfl, hN, hb⟩
  obtain ⟨Ag, cg, rfl⟩ := Kd.N_slice hN
  have HN := Aside0.mk hN
  replace BK := Aside0.mk (blk_below BK.out hb)
  replace HD := Aside0.mk (Kd.N_below HD.out hb)
  replace HB := Aside0.mk (below_step HB.out hb)
  clear hN hb HI
  refine ⟨_, rfl, ?_⟩
  refine hK.out _ _ ((blk_cell BK.out 0).trans rfl) (fun hHeld => ?_)
  clear hK K
  refine norm_ (a' := ?_) ?_ ?_
  rotate_left
  · show Act.put _ (some 12) _ = _
    simp only [Act.put, List.setIfInBounds_toArray, List.set_cons_zero, List.set_cons_succ, i64_w, i32_w]
    rfl
  refine one_ (i := 6) (N := some 13) #[true, true, true, true, true, true, true, false, false] rfl rfl (one_of rfl (by kernel_rfl)) (by decide) (fun K hK => ?_)
  refine value_ (w1 := w3.alloc (.cells #[.slice Ad D.length cd, .slice Ag (gapP I g).length cg] 23)) (v := .slice (some ⟨w3.heap.size, 0, none⟩) 2 2) (by rfl) rfl ?_ ?_
  · go_simp
    try rfl
  refine hK.out _ _ ((blk_cell (blk_alloc BK.out _) 0).trans rfl) (fun hHeld => ?_)
  clear hK K
  refine norm_ (a' := ?_) ?_ ?_
  rotate_left
  · show Act.put _ (some 13) _ = _
    simp only [Act.put, List.setIfInBounds_toArray, List.set_cons_zero, List.set_cons_succ, i64_w, i32_w]
    rfl
  have hb := below_alloc (Below.refl w3.heap.size w3) (.cells #[.slice Ad D.length cd, .slice Ag (gapP I g).length cg] 23)
  have BN := Aside0.mk (heap_alloc_new w3 (.cells #[.slice Ad D.length cd, .slice Ag (gapP I g).length cg] 23))
  replace BK := Aside0.mk (blk_below BK.out hb)
  replace HD := Aside0.mk (Kd.N_below HD.out hb)
  replace HB := Aside0.mk (below_step HB.out hb)
  have FD := Aside0.mk (Kd.F_mono (ok' := fun _ => True) (Kd.N_F HD.out) (fun _ _ => trivial))
  have FG := Aside0.mk (Kd.F_mono (ok' := fun _ => True) (Kd.N_F (Kd.N_below HN.out hb)) (fun _ _ => trivial))
  clear hb HN hHeld
  refine one_ (i := 7) (N := some 14) #[true, true, true, true, true, true, true, true, false] rfl rfl (one_of rfl (by kernel_rfl)) (by decide) (fun K hK => ?_)
  refine goes_ Try.func39 (by kernel_rfl) rfl #[.slice (some ⟨w3.heap.size, 0, none⟩) 2 2] (by rfl) rfl rfl (by (try simp only [List.map_toArray, List.map_cons, List.map_nil]); first | done | rfl) ?_
  refine (concat_calls w3.heap.size Ad cd D Ag cg (gapP I g) (fun _ => True) _ ((blk_cell BN.out 0).trans rfl) ((blk_cell BN.out 1).trans rfl) FD.out FG.out (by have := gapP_len I g; omega)).mono ?_
  rintro e w4 ⟨vl, rfl, hN, hb⟩
  rw [HL0.out] at hN
  obtain ⟨Al, cl, rfl⟩ := Kd.N_slice hN
  rw [HL1.out] at hN ⊢
  have HN := Aside0.mk hN
  replace BK := Aside0.mk (blk_below BK.out hb)
  replace HD := Aside0.mk (Kd.N_below HD.out hb)
  replace HB := Aside0.mk (below_step HB.out hb)
  clear hN hb HD BN FD FG
  refine ⟨_, rfl, ?_⟩
  refine hK.out _ _ ((blk_cell BK.out 0).trans rfl) (fun hHeld => ?_)
  clear hK K
  refine norm_ (a' := ?_) ?_ ?_
  rotate_left
  · show Act.put _ (some 14) _ = _
    simp only [Act.put, List.setIfInBounds_toArray, List.set_cons_zero, List.set_cons_succ, i64_w, i32_w]
    rfl
  refine pure_ (i := 8) (N := some 3) (v := ?_) (a' := ?_) #[true, true, true, true, true, true, true, true, true] rfl rfl (any_of rfl (by kernel_rfl)) (fun _ _ _ h => h) (Or.inl ⟨by rfl, ?_⟩) ?_ ?_
  rotate_left
  · intro w'
    go_simp
    with_reducible rfl
  rotate_left
  · simp only [Act.put, List.setIfInBounds_toArray, List.set_cons_zero, List.set_cons_succ, i64_w, i32_w]
    rfl
  refine done_ (done_of rfl (by kernel_rfl)) ?_
  clear c0
  obtain ⟨gD, capD, hvD, _, hgl, cellsD, hcD⟩ := Kd.N_form HN.out (by have := HL1.out; omega)
  injection hvD with hA1 hlen_ hc1
  clear hlen_
  subst hA1
  subst hc1
  obtain ⟨ce, _, hFK, hcc, _⟩ := Kd.N_elem HN.out z30 (m : Int) (by omega) (by omega)
  have hgetD : L.getD (m : Int).toNat z30 = o := by rw [Int.toNat_natCast, List.getD_eq_getElem?_getD, HO_.out]; rfl
  rw [hgetD] at hFK
  obtain ⟨A2, c2, A3, c3, A4, c4, rfl, _, _, _, _, hl4, hF4⟩ := k30_openF hFK
  have e0 : w4.cell? ⟨gD, m * 5, none⟩ = some (.int .u8 o.f0) := hcc 0 _ rfl
  have e4 : w4.cell? ⟨gD, m * 5 + 4, none⟩ = some (.slice A4 o.f4.length c4) := hcc 4 _ rfl
  have q0 : (0 : Int) ≤ (m : Int) := Int.natCast_nonneg m
  have q1 : (m : Int) < (m : Int) + 1 := by omega
  clear hFK hcc hgetD hl4 hF4 hcD
  have hCL := (Kd.N_reads' HN.out).2
  have hC4 := copyO_calls (some ⟨gD, 0, none⟩) cl L w4 hCL.2 (by have h_ := hCL.1; rw [HL1.out] ; exact h_) hLl hsm
  rw [HL1.out] at hC4
  have HC4 := Aside0.mk hC4
  clear hCL hC4
  go_wp2_with fail
  go_at_call 40
  refine HC4.out.mono ?_
  rintro e w5 ⟨v, rfl, hS, hb⟩
  have HS := Aside0.mk (Kd.S_lower hS HB.out.size)
  have HBB := Aside0.mk (below_step HB.out hb)
  clear hS hb HN HB
  go_wp2_with fail
  go_ret
  exact ⟨_, rfl, HS.out, HBB.out⟩

set_option maxHeartbeats 4000000 in
set_option maxRecDepth 100000 in
theorem ops_3 (p : Nat) (D I : List S30) (g : Int) (base : Nat) (ok : Nat → Prop) (w : World) (hM : Mk w base ok p D I g) (hIl : I.length ≤ 1000000) (hDl : D.length ≤ 1000000) (L : List S30) (hL0 : D ++ gapP I g = L) (hsm : Small L) (m : Nat) (o : S30) (hL1 : L.length = m + 1) (ho : L[m]? = some o) (hk : o.f0 = 1) (hp : o.f4.length = 0) :
    Calls Try.prog 23 #[.pointer (some ⟨p, 0, none⟩)] w fun e w' => ∃ v : Value, e = .returned v ∧ Kd.S k30 30 w' w.heap.size (fun _ => True) v (L.take m) ∧ Below w.heap.size w w' := by
  obtain ⟨vD, vI, okD, okI, h1, h2, h3, h4, h5, h6, h7⟩ := hM.bound
  have BK := Aside0.mk h1
  have HP := Aside0.mk (blk_lt h1)
  have HD := Aside0.mk h4
  have HI := Aside0.mk h5
  have H6 : Aside0 (∀ k, okD k → base ≤ k ∧ ok k ∧ k ≠ p ∧ k < w.heap.size) := Aside0.mk (fun k hk => ⟨(h6 k hk).1, (h6 k hk).2.1.1, (h6 k hk).2.2, (h6 k hk).2.1.2⟩)
  have H7 : Aside0 (∀ k, okI k → base ≤ k ∧ ok k ∧ k ≠ p ∧ ¬ okD k ∧ k < w.heap.size) := Aside0.mk (fun k hk => ⟨(h7 k hk).1, (h7 k hk).2.1.1, (h7 k hk).2.2.1, (h7 k hk).2.2.2, (h7 k hk).2.1.2⟩)
  have H3 := Aside0.mk h3.1
  have HK := Aside0.mk (Kept.refl w ok)
  have HB := Aside0.mk (Below.refl w.heap.size w)
  have HZ := Aside0.mk (Nat.le_refl w.heap.size)
  obtain ⟨Ai, ci, hvI⟩ := Kd.S_slice h5
  obtain ⟨Ad, cd, hvD⟩ := Kd.N_slice h4
  subst hvI
  subst hvD
  have c0 : w.cell? ⟨p, 0, none⟩ = some (.slice Ad D.length cd) := (blk_cell h1 0).trans rfl
  have HL0 := Aside0.mk hL0
  have HL1 := Aside0.mk hL1
  have hLl : L.length ≤ 3000000 := by have := gapP_len I g; rw [← hL0, List.length_append]; omega
  clear h1 h3 h4 h5 h6 h7 hM hL0 hL1 HK
  have HO_ := Aside0.mk ho
  clear ho
  have hm1 : m + 1 ≤ 3000000 := by have := HL1.out; omega
  have hkb : (o.f0 == 1) = true := beq_iff_eq.2 hk
  have hpb : ((o.f4.length : Int) == 0) = true := beq_iff_eq.2 (by omega)
  clear hk
  go_enter Try.func23, Try.ntmps23
  go_wp2_with fail
  refine start_ (n := 9) (S := fun w' => w'.cell? ⟨p, 0, none⟩ = some (.slice Ad D.length cd)) (ds := []) #[false, false, false, false, false, false, false, false, false] (by kernel_rfl) rfl rfl ((blk_cell (w := w.drew) BK.out 0).trans rfl) (fun hHeld => ?_)
  have hb := below_drew (Below.refl w.heap.size w)
  generalize w.drew = w2 at hb hHeld ⊢
  replace BK := Aside0.mk (blk_below BK.out hb)
  replace HD := Aside0.mk (Kd.N_below HD.out hb)
  replace HB := Aside0.mk (below_step HB.out hb)
  replace HI := Aside0.mk (Kd.S_below HI.out hb)
  clear hb
  refine pure_ (i := 0) (N := some 7) (v := ?_) (a' := ?_) #[true, false, false, false, false, false, false, false, false] rfl rfl (any_of rfl (by kernel_rfl)) (fun _ _ _ h => h) (Or.inl ⟨by rfl, ?_⟩) ?_ ?_
  rotate_left
  · intro w'
    go_simp
    with_reducible rfl
  rotate_left
  · simp only [Act.put, List.setIfInBounds_toArray, List.set_cons_zero, List.set_cons_succ, i64_w, i32_w]
    rfl
  refine pure_ (i := 1) (N := some 8) (v := ?_) (a' := ?_) #[true, true, false, false, false, false, false, false, false] rfl rfl (any_of rfl (by kernel_rfl)) (fun _ _ _ h => h) (Or.inl ⟨by rfl, ?_⟩) ?_ ?_
  rotate_left
  · intro w'
    go_simp
    with_reducible rfl
  rotate_left
  · simp only [Act.put, List.setIfInBounds_toArray, List.set_cons_zero, List.set_cons_succ, i64_w, i32_w]
    rfl
  refine pure_ (i := 2) (N := some 9) (v := ?_) (a' := ?_) #[true, true, true, false, false, false, false, false, false] rfl rfl (any_of rfl (by kernel_rfl)) (fun _ _ _ h => h) (Or.inl ⟨by rfl, ?_⟩) ?_ ?_
  rotate_left
  · intro w'
    go_simp
    with_reducible rfl
  rotate_left
  · simp only [Act.put, List.setIfInBounds_toArray, List.set_cons_zero, List.set_cons_succ, i64_w, i32_w]
    rfl
  refine pure_ (i := 4) (N := some 11) (v := ?_) (a' := ?_) #[true, true, true, false, true, false, false, false, false] rfl rfl (any_of rfl (by kernel_rfl)) (fun _ _ _ h => h) (Or.inl ⟨by rfl, ?_⟩) ?_ ?_
  rotate_left
  · intro w'
    go_simp
    with_reducible rfl
  rotate_left
  · simp only [Act.put, List.setIfInBounds_toArray, List.set_cons_zero, List.set_cons_succ, i64_w, i32_w]
    rfl
  refine take_ (i := 3) (N := some 10) (v := ?_) (a' := ?_) #[true, true, true, true, true, false, false, false, false] rfl rfl (take_of rfl (by kernel_rfl)) (fun _ _ _ h => h) (Or.inl ⟨by rfl, ?_⟩) hHeld ?_ ?_
  rotate_left
  · rintro w' s0
    go_simp
    with_reducible rfl
  rotate_left
  · simp only [Act.put, List.setIfInBounds_toArray, List.set_cons_zero, List.set_cons_succ, i64_w, i32_w]
    rfl
  refine one_ (i := 5) (N := some 12) #[true, true, true, true, true, true, false, false, false] rfl rfl (one_of rfl (by kernel_rfl)) (by decide) (fun K hK => ?_)
  refine goes_ Try.func35 (by kernel_rfl) rfl #[.pointer (some ⟨p, 0, none⟩)] (by rfl) rfl rfl (by (try simp only [List.map_toArray, List.map_cons, List.map_nil]); first | done | rfl) ?_
  refine (gap_calls p Ai ci I g okI w2 ((blk_cell BK.out 1).trans rfl) ((blk_cell BK.out 2).trans rfl) (Kd.S_V HI.out) hIl).mono ?_
  rintro e w3 ⟨vg, rfl, hN, hb⟩
  obtain ⟨Ag, cg, rfl⟩ := Kd.N_slice hN
  have HN := Aside0.mk hN
  replace BK := Aside0.mk (blk_below BK.out hb)
  replace HD := Aside0.mk (Kd.N_below HD.out hb)
  replace HB := Aside0.mk (below_step HB.out hb)
  clear hN hb HI
  refine ⟨_, rfl, ?_⟩
  refine hK.out _ _ ((blk_cell BK.out 0).trans rfl) (fun hHeld => ?_)
  clear hK K
  refine norm_ (a' := ?_) ?_ ?_
  rotate_left
  · show Act.put _ (some 12) _ = _
    simp only [Act.put, List.setIfInBounds_toArray, List.set_cons_zero, List.set_cons_succ, i64_w, i32_w]
    rfl
  refine one_ (i := 6) (N := some 13) #[true, true, true, true, true, true, true, false, false] rfl rfl (one_of rfl (by kernel_rfl)) (by decide) (fun K hK => ?_)
  refine value_ (w1 := w3.alloc (.cells #[.slice Ad D.length cd, .slice Ag (gapP I g).length cg] 23)) (v := .slice (some ⟨w3.heap.size, 0, none⟩) 2 2) (by rfl) rfl ?_ ?_
  · go_simp
    try rfl
  refine hK.out _ _ ((blk_cell (blk_alloc BK.out _) 0).trans rfl) (fun hHeld => ?_)
  clear hK K
  refine norm_ (a' := ?_) ?_ ?_
  rotate_left
  · show Act.put _ (some 13) _ = _
    simp only [Act.put, List.setIfInBounds_toArray, List.set_cons_zero, List.set_cons_succ, i64_w, i32_w]
    rfl
  have hb := below_alloc (Below.refl w3.heap.size w3) (.cells #[.slice Ad D.length cd, .slice Ag (gapP I g).length cg] 23)
  have BN := Aside0.mk (heap_alloc_new w3 (.cells #[.slice Ad D.length cd, .slice Ag (gapP I g).length cg] 23))
  replace BK := Aside0.mk (blk_below BK.out hb)
  replace HD := Aside0.mk (Kd.N_below HD.out hb)
  replace HB := Aside0.mk (below_step HB.out hb)
  have FD := Aside0.mk (Kd.F_mono (ok' := fun _ => True) (Kd.N_F HD.out) (fun _ _ => trivial))
  have FG := Aside0.mk (Kd.F_mono (ok' := fun _ => True) (Kd.N_F (Kd.N_below HN.out hb)) (fun _ _ => trivial))
  clear hb HN hHeld
  refine one_ (i := 7) (N := some 14) #[true, true, true, true, true, true, true, true, false] rfl rfl (one_of rfl (by kernel_rfl)) (by decide) (fun K hK => ?_)
  refine goes_ Try.func39 (by kernel_rfl) rfl #[.slice (some ⟨w3.heap.size, 0, none⟩) 2 2] (by rfl) rfl rfl (by (try simp only [List.map_toArray, List.map_cons, List.map_nil]); first | done | rfl) ?_
  refine (concat_calls w3.heap.size Ad cd D Ag cg (gapP I g) (fun _ => True) _ ((blk_cell BN.out 0).trans rfl) ((blk_cell BN.out 1).trans rfl) FD.out FG.out (by have := gapP_len I g; omega)).mono ?_
  rintro e w4 ⟨vl, rfl, hN, hb⟩
  rw [HL0.out] at hN
  obtain ⟨Al, cl, rfl⟩ := Kd.N_slice hN
  rw [HL1.out] at hN ⊢
  have HN := Aside0.mk hN
  replace BK := Aside0.mk (blk_below BK.out hb)
  replace HD := Aside0.mk (Kd.N_below HD.out hb)
  replace HB := Aside0.mk (below_step HB.out hb)
  clear hN hb HD BN FD FG
  refine ⟨_, rfl, ?_⟩
  refine hK.out _ _ ((blk_cell BK.out 0).trans rfl) (fun hHeld => ?_)
  clear hK K
  refine norm_ (a' := ?_) ?_ ?_
  rotate_left
  · show Act.put _ (some 14) _ = _
    simp only [Act.put, List.setIfInBounds_toArray, List.set_cons_zero, List.set_cons_succ, i64_w, i32_w]
    rfl
  refine pure_ (i := 8) (N := some 3) (v := ?_) (a' := ?_) #[true, true, true, true, true, true, true, true, true] rfl rfl (any_of rfl (by kernel_rfl)) (fun _ _ _ h => h) (Or.inl ⟨by rfl, ?_⟩) ?_ ?_
  rotate_left
  · intro w'
    go_simp
    with_reducible rfl
  rotate_left
  · simp only [Act.put, List.setIfInBounds_toArray, List.set_cons_zero, List.set_cons_succ, i64_w, i32_w]
    rfl
  refine done_ (done_of rfl (by kernel_rfl)) ?_
  clear c0
  obtain ⟨gD, capD, hvD, _, hgl, cellsD, hcD⟩ := Kd.N_form HN.out (by have := HL1.out; omega)
  injection hvD with hA1 hlen_ hc1
  clear hlen_
  subst hA1
  subst hc1
  obtain ⟨ce, _, hFK, hcc, _⟩ := Kd.N_elem HN.out z30 (m : Int) (by omega) (by omega)
  have hgetD : L.getD (m : Int).toNat z30 = o := by rw [Int.toNat_natCast, List.getD_eq_getElem?_getD, HO_.out]; rfl
  rw [hgetD] at hFK
  obtain ⟨A2, c2, A3, c3, A4, c4, rfl, _, _, _, _, hl4, hF4⟩ := k30_openF hFK
  have e0 : w4.cell? ⟨gD, m * 5, none⟩ = some (.int .u8 o.f0) := hcc 0 _ rfl
  have e4 : w4.cell? ⟨gD, m * 5 + 4, none⟩ = some (.slice A4 o.f4.length c4) := hcc 4 _ rfl
  have q0 : (0 : Int) ≤ (m : Int) := Int.natCast_nonneg m
  have q1 : (m : Int) < (m : Int) + 1 := by omega
  clear hFK hcc hgetD hl4 hF4 hcD
  have hNT := Kd.N_take (m := m) HN.out (by have := HL1.out; omega)
  have hCT := (Kd.N_reads' hNT).2
  have hlt : (L.take m).length = m := by rw [List.length_take, HL1.out]; omega
  have hC4 := copyO_calls (some ⟨gD, 0, none⟩) cl (L.take m) w4 hCT.2 (by rw [hlt]; exact hCT.1) (by rw [hlt]; omega) (fun x hx => hsm x (List.mem_of_mem_take hx))
  rw [hlt] at hC4
  have HC4 := Aside0.mk hC4
  have hcm : m + 1 ≤ cl := (Kd.N_reads' HN.out).2.1
  rw [hp] at e4
  clear hNT hCT hlt hC4 hp
  go_wp2_with fail
  go_at_call 40
  refine HC4.out.mono ?_
  rintro e w5 ⟨v, rfl, hS, hb⟩
  have HS := Aside0.mk (Kd.S_lower hS HB.out.size)
  have HBB := Aside0.mk (below_step HB.out hb)
  clear hS hb HN HB
  go_wp2_with fail
  go_ret
  exact ⟨_, rfl, HS.out, HBB.out⟩
end Go.Proofs.Ytmjeoknamoegpaa.P
