-- several texts in one: Px1 Px2 Each EachLen EachAt Q0 EachCut
import Derived.LoopIn
import Derived.LoopNIn
import Derived.OwnWalkIn
import Derived.RangeFuncBound
import Derived.RangeFuncCalls
import Derived.RangeFuncLeaves
import Derived.RangeFuncNested
import Derived.Shelf.Abstract
import Derived.Shelf.RegionOpen
import Derived.TacticsInMore
import Derived.Test.YtpnoeggnniagfaaZ1
import Derived.WalkKit
namespace Go.Proofs.Ytpnoeggnniagfaa.P
open Go.RowKit Go.Proofs.YtpnoeggnniagfaaW.PrintWords Go.Proofs.YtpnoeggnniagfaaW.PrintLast Go.Proofs.YtpnoeggnniagfaaW.PrintMore
attribute [local go_sem] max2_int min2_int max_two min_two max_three min_three max_four min_four   -- for this text's walks alone
set_option linter.unusedVariables false
set_option linter.unusedSimpArgs false
theorem eqA44 (d : Nat) (w : World) (x0 y0 : Int) (x1 y1 : Int) (x2 y2 : Int) (x3 y3 : ByteArray) :
    (Op.equalIn (d + 2) 44 (.agg #[.int .u8 x0, .int .i64 x1, .int .u64 x2, .string x3]) (.agg #[.int .u8 y0, .int .i64 y1, .int .u64 y2, .string y3])).run Try.prog w = .ok (x0 == y0 && (x1 == y1 && (x2 == y2 && (x3.toList == y3.toList)))) w := by
  refine eqA_of Try.underlying44 (by kernel_rfl) ?_
  refine eqf_cons (by rfl) (by go_simp; rfl) (by go_simp; rfl) (by go_simp) ?_
  refine eqf_cons (by rfl) (by go_simp; rfl) (by go_simp; rfl) (by go_simp) ?_
  refine eqf_cons (by rfl) (by go_simp; rfl) (by go_simp; rfl) (by go_simp) ?_
  exact eqf_last (by rfl) (by go_simp; rfl) (by go_simp; rfl) (by go_simp)
theorem eqA46 (d : Nat) (w : World) (x0 y0 : Int) (x1 y1 : Int) (x2 y2 : Int) (x3 y3 : Int) (x4 y4 : ByteArray) :
    (Op.equalIn (d + 3) 46 (.agg #[.int .i64 x0, .int .u8 x1, .int .i64 x2, .int .u64 x3, .string x4]) (.agg #[.int .i64 y0, .int .u8 y1, .int .i64 y2, .int .u64 y3, .string y4])).run Try.prog w = .ok (x0 == y0 && ((x1 == y1 && (x2 == y2 && (x3 == y3 && (x4.toList == y4.toList)))))) w := by
  refine eqA_of Try.underlying46 (by kernel_rfl) ?_
  refine eqf_cons (by rfl) (by go_simp; rfl) (by go_simp; rfl) (by go_simp) ?_
  exact eqf_last (by rfl) (by go_simp) (by go_simp) (eqA44 (d + 0) w _ _ _ _ _ _ _ _)
end Go.Proofs.Ytpnoeggnniagfaa.P
namespace Go.Proofs.Ytpnoeggnniagfaa.P
open Go.RowKit Go.Proofs.YtpnoeggnniagfaaW.PrintWords Go.Proofs.YtpnoeggnniagfaaW.PrintLast Go.Proofs.YtpnoeggnniagfaaW.PrintMore
attribute [local go_sem] max2_int min2_int max_two min_two max_three min_three max_four min_four   -- for this text's walks alone
set_option linter.unusedVariables false
set_option linter.unusedSimpArgs false
attribute [local go_sem high] eqA46
/-! ### rubricref12_Copy: function 19 -/
def rubricref12_Copy.l0 : Nat → List (S34) → List (S34) → Int → Option ((List (S34)))
  | 0, _, _, _ => none
  | k + 1, x0, x3, x4 => if x4 < (x0.length : Int) then (if 0 ≤ x4 then ((some (([] : List (S46)) : List (S46))).bind fun y102 => (if y102.length + ((rd_T34 x0 x4).f1).length < 2932031007402 then (if x3.length < 4398046511104 then (rubricref12_Copy.l0 k x0 (x3 ++ [(⟨(rd_T34 x0 x4).f0, (y102 ++ ((rd_T34 x0 x4).f1))⟩ : S34)]) (wrap64 (x4 + 1))) else (none)) else (none))) else (none)) else (some x3)
def rubricref12_Copy.f (k : Nat) (l0 : List (S34)) : Option ((List (S34))) := rubricref12_Copy.l0 k l0 ([] : List (S34)) 0
def rubricref12_Copy.T5 : Bool × List (List Nat × List Nat) := (true, [([], []), ([], []), ([], []), ([1, 2], [1, 2]), ([3], [3]), ([4], [4]), ([], []), ([], []), ([], []), ([7, 8], [7, 8]), ([9], [9]), ([10], [10]), ([6, 11], [6, 11]), ([5, 12], [5, 12]), ([13], [13]), ([0, 14, 12], [0, 14]), ([15, 15, 0, 1, 2, 3, 4, 5, 6, 7, 8, 9, 10, 11, 12, 13, 14, 15], [0, 15])])
def rubricref12_Copy.B5 : List Nat := [0, 0, 0, 6, 14, 30, 0, 0, 0, 384, 896, 1920, 4032, 8190, 16382, 32767, 65535]
theorem rubricref12_Copy.tab5 : rtab .any (opsOf Try.f19 5) = rubricref12_Copy.T5 := by kernel_rfl
theorem rubricref12_Copy.bits5 : waitsOk rubricref12_Copy.T5.2 rubricref12_Copy.B5 = true := by kernel_rfl
set_option maxHeartbeats 8000000 in
set_option maxRecDepth 100000 in
theorem rubricref12_Copy.calls (k : Nat) (A0 : Option Addr) (c0 : Nat) (l0 : List (S34)) (r : List (S34)) (w : World) (hr0 : Kd.C k34 w A0 l0.length l0) (hc0 : l0.length ≤ c0) (h : rubricref12_Copy.f k l0 = some r) :
    Calls Try.prog 19 #[.slice A0 l0.length c0] w fun e w' => ∃ v0_ : Value, e = .returned (v0_) ∧ Kd.S k34 34 w' w.heap.size (fun _ => True) v0_ r ∧ Below w.heap.size w w' := by
  have hu34 := Try.underlying34
  have HR0 := Aside0.mk hr0
  have HC0 := Aside0.mk hc0
  clear hr0 hc0
  have HB := Aside0.mk (Below.refl w.heap.size w)
  have H : (rubricref12_Copy.l0 k l0 ([] : List (S34)) 0) = some r := h
  clear h
  have H' := Aside0.mk H
  clear H
  go_enter Try.func19, Try.ntmps19
  go_wp2
  go_loopg [3, 4] k (fun kq v3 v4 w' => ∃ (x3_1 : List (S34)) (x4_1 : Int), v4 = .int .i64 x4_1 ∧ Aside0 (rubricref12_Copy.l0 kq l0 x3_1 x4_1 = some r) ∧ Aside0 (kq ≤ k) ∧ Aside0 (Kd.S k34 34 w' w.heap.size (fun _ => True) v3 x3_1) ∧ Aside0 (Below w.heap.size w w'))
  case atStart => exact ⟨(([] : List (S34))), (0), (by first | rfl | (simp; done) | (simp [*]; done)), H', ⟨Nat.le_refl _⟩, ⟨by first | exact Kd.S_nil _ _ _ _ _ | exact Kd.N_nil _ _ _ _ _ | exact Kd.V_nil _ _ _ _ _ | exact Kd.Q_nil _ _ _ _ _ | exact Kd.R_nil _ _ _ _ _⟩, ⟨by repeat (first | (with_reducible first | exact HB.out | apply below_alloc | apply pw_below_drewN | apply below_drew1) | exact HB.out | exact Below.refl _ _)⟩⟩
  case round =>
    clear H'
    try clear c1
    obtain ⟨x3_1, x4_1, rfl, HA, HK1, HO_3, HB⟩ := hrel
    cases gk with
    | zero => exact absurd HA.out (by simp [rubricref12_Copy.l0])
    | succ k1 =>
      have H := HA.out
      clear HA
      simp only [rubricref12_Copy.l0] at H
      by_cases c2 : x4_1 < (l0.length : Int)
      · rw [if_pos c2] at H
        have c2b0 : decide (x4_1 < (l0.length : Int)) = true := decide_eq_true c2
        clear c2
        by_cases c3 : 0 ≤ x4_1
        · rw [if_pos c3] at H
          have c3b0 : decide (0 ≤ x4_1) = true := decide_eq_true c3
          clear c3
          obtain ⟨y102, hy102⟩ : ∃ y_ : List (S46), y_ = (([] : List (S46))) := ⟨_, rfl⟩
          replace H : (if y102.length + ((rd_T34 l0 x4_1).f1).length < 2932031007402 then (if x3_1.length < 4398046511104 then (rubricref12_Copy.l0 k1 l0 (x3_1 ++ [(⟨(rd_T34 l0 x4_1).f0, (y102 ++ ((rd_T34 l0 x4_1).f1))⟩ : S34)]) (wrap64 (x4_1 + 1))) else (none)) else (none)) = some r := by first | (rw [hy102]; with_reducible exact H) | (have H2_ := (Option.bind_some _ _).symm.trans H; rw [hy102]; with_reducible exact H2_) | (have H2_ := (Option.bind_some _ _).symm.trans H; with_reducible exact H2_) | with_reducible exact H | (rw [hy102]; exact H) | exact H
          have Ny102 := Aside0.mk hy102
          clear hy102
          by_cases c4 : y102.length + ((rd_T34 l0 x4_1).f1).length < 2932031007402
          · rw [if_pos c4] at H
            have LMc4 := Aside0.mk c4
            clear c4
            obtain ⟨y106, hy106⟩ : ∃ y_ : List (S46), y_ = (y102 ++ ((rd_T34 l0 x4_1).f1)) := ⟨_, rfl⟩
            replace H : (if x3_1.length < 4398046511104 then (rubricref12_Copy.l0 k1 l0 (x3_1 ++ [(⟨(rd_T34 l0 x4_1).f0, y106⟩ : S34)]) (wrap64 (x4_1 + 1))) else (none)) = some r := by first | (rw [hy106]; with_reducible exact H) | (have H2_ := (Option.bind_some _ _).symm.trans H; rw [hy106]; with_reducible exact H2_) | (have H2_ := (Option.bind_some _ _).symm.trans H; with_reducible exact H2_) | with_reducible exact H | (rw [hy106]; exact H) | exact H
            have Ny106 := Aside0.mk hy106
            clear hy106
            by_cases c5 : x3_1.length < 4398046511104
            · rw [if_pos c5] at H
              have LMc5 := Aside0.mk c5
              clear c5
              obtain ⟨y109, hy109⟩ : ∃ y_ : List (S34), y_ = (x3_1 ++ [(⟨(rd_T34 l0 x4_1).f0, y106⟩ : S34)]) := ⟨_, rfl⟩
              replace H : (rubricref12_Copy.l0 k1 l0 y109 (wrap64 (x4_1 + 1))) = some r := by first | (rw [hy109]; with_reducible exact H) | (have H2_ := (Option.bind_some _ _).symm.trans H; rw [hy109]; with_reducible exact H2_) | (have H2_ := (Option.bind_some _ _).symm.trans H; with_reducible exact H2_) | with_reducible exact H | (rw [hy109]; exact H) | exact H
              have Ny109 := Aside0.mk hy109
              clear hy109
              have H' := Aside0.mk H
              clear H
              try go_wp2
              have n0_ := Aside0.mk (Kd.S_drew HO_3.out)
              have n1_ := Aside0.mk (below_drew1 HB.out)
              clear HO_3
              clear HB
              have HO_3 := n0_
              have HB := n1_
              clear n0_ n1_
              have p101 : 0 ≤ (x4_1 : Int) := of_decide_eq_true (by first | (with_reducible assumption) | assumption)
              have q101 : x4_1 < (l0.length : Int) := of_decide_eq_true (by first | (with_reducible assumption) | assumption)
              obtain ⟨ad101, A101_1, c101_1, e101, hx101_0, hx101_1, hl101_1, hi101_1⟩ := at_T34 HR0.out x4_1 p101 q101
              have hw101_1 := hx101_1
              have hw101_0 := hx101_0
              cases e101
              replace hx101_0 := (HB.out.cell (World.block_lt_of_cell? w _ hx101_0)).trans hx101_0
              replace hx101_1 := (HB.out.cell (World.block_lt_of_cell? w _ hx101_1)).trans hx101_1
              have HR101_1 := Aside0.mk hi101_1
              have HC101_1 := Aside0.mk hl101_1
              clear hi101_1 hl101_1
              replace p101 := eq_true p101
              replace q101 := eq_true q101
              have p105 : 0 ≤ (x4_1 : Int) := of_decide_eq_true (by first | (with_reducible assumption) | assumption)
              have q105 : x4_1 < (l0.length : Int) := of_decide_eq_true (by first | (with_reducible assumption) | assumption)
              obtain ⟨ad105, A105_1, c105_1, e105, hx105_0, hx105_1, hl105_1, hi105_1⟩ := at_T34 HR0.out x4_1 p105 q105
              have hw105_1 := hx105_1
              have hw105_0 := hx105_0
              obtain rfl : ad101 = ad105 := (by injection e105)
              replace hx105_0 := (HB.out.cell (World.block_lt_of_cell? w _ hx105_0)).trans hx105_0
              replace hx105_1 := (HB.out.cell (World.block_lt_of_cell? w _ hx105_1)).trans hx105_1
              have HR105_1 := Aside0.mk hi105_1
              have HC105_1 := Aside0.mk hl105_1
              clear hi105_1 hl105_1
              replace p105 := eq_true p105
              replace q105 := eq_true q105
              have ea_ := Option.some.inj (hx101_1.symm.trans hx105_1)
              injection ea_ with ea_ en_ ec_
              subst ea_
              subst ec_
              clear en_
              refine start_ (n := 17) (S := fun w' => w'.cell? (ad101.add ((x4_1).toNat * 2)) = some (.int .i64 ((rd_T34 l0 x4_1).f0)) ∧ w'.cell? ⟨(ad101.add ((x4_1).toNat * 2)).block, (ad101.add ((x4_1).toNat * 2)).off + 1, none⟩ = some (.slice A101_1 ((rd_T34 l0 x4_1).f1).length c101_1) ∧ w'.cell? (ad101.add ((x4_1).toNat * 2)) = some (.int .i64 ((rd_T34 l0 x4_1).f0)) ∧ w'.cell? ⟨(ad101.add ((x4_1).toNat * 2)).block, (ad101.add ((x4_1).toNat * 2)).off + 1, none⟩ = some (.slice A101_1 ((rd_T34 l0 x4_1).f1).length c101_1)) (ds := []) #[false, false, false, false, false, false, false, false, false, false, false, false, false, false, false, false, false] (by kernel_rfl) rfl rfl ⟨((HB.out.cell (World.block_lt_of_cell? w _ hw101_0)).trans hw101_0), ((HB.out.cell (World.block_lt_of_cell? w _ hw101_1)).trans hw101_1), ((HB.out.cell (World.block_lt_of_cell? w _ hw105_0)).trans hw105_0), ((HB.out.cell (World.block_lt_of_cell? w _ hw105_1)).trans hw105_1)⟩ (fun hHeld => ?_); refine with_tabW rubricref12_Copy.tab5 rubricref12_Copy.bits5 (fun HT_ HW_ => ?_)
              generalize wr.drew = w6 at HO_3 HB HR101_1 HR105_1 hx101_0 hx101_1 hx105_0 hx105_1 hHeld ⊢
              refine pure_ (i := 0) (N := some 11) (v := ?_) (a' := ?_) #[true, false, false, false, false, false, false, false, false, false, false, false, false, false, false, false, false] rfl rfl (any_of HT_.out (by kernel_rfl)) (fun _ _ _ h => h) (Or.inl ⟨by rfl, ?_⟩) ?_ ?_
              rotate_left
              · intro w'
                go_simp
                with_reducible rfl
              rotate_left
              · simp only [Act.put, List.setIfInBounds_toArray, List.set_cons_zero, List.set_cons_succ, i64_w, i32_w]
                rfl
              refine pure_ (i := 1) (N := some 12) (v := ?_) (a' := ?_) #[true, true, false, false, false, false, false, false, false, false, false, false, false, false, false, false, false] rfl rfl (any_of HT_.out (by kernel_rfl)) (fun _ _ _ h => h) (Or.inl ⟨by rfl, ?_⟩) ?_ ?_
              rotate_left
              · intro w'
                go_simp
                with_reducible rfl
              rotate_left
              · simp only [Act.put, List.setIfInBounds_toArray, List.set_cons_zero, List.set_cons_succ, i64_w, i32_w]
                rfl
              refine pure_ (i := 2) (N := some 13) (v := ?_) (a' := ?_) #[true, true, true, false, false, false, false, false, false, false, false, false, false, false, false, false, false] rfl rfl (any_of HT_.out (by kernel_rfl)) (fun _ _ _ h => h) (Or.inl ⟨by rfl, ?_⟩) ?_ ?_
              rotate_left
              · intro w'
                go_simp
                with_reducible rfl
              rotate_left
              · simp only [Act.put, List.setIfInBounds_toArray, List.set_cons_zero, List.set_cons_succ, i64_w, i32_w]
                rfl
              refine pure_ (i := 3) (N := some 14) (v := ?_) (a' := ?_) #[true, true, true, true, false, false, false, false, false, false, false, false, false, false, false, false, false] rfl rfl (any_of HT_.out (by kernel_rfl)) (fun _ _ _ h => h) (Or.inl ⟨by rfl, ?_⟩) ?_ ?_
              rotate_left
              · intro w'
                go_simp
                with_reducible rfl
              rotate_left
              · simp only [Act.put, List.setIfInBounds_toArray, List.set_cons_zero, List.set_cons_succ, i64_w, i32_w]
                rfl
              refine pure_ (i := 4) (N := some 15) (v := ?_) (a' := ?_) #[true, true, true, true, true, false, false, false, false, false, false, false, false, false, false, false, false] rfl rfl (any_of HT_.out (by kernel_rfl)) (fun _ _ _ h => h) (Or.inl ⟨by rfl, ?_⟩) ?_ ?_
              rotate_left
              · intro w'
                go_simp
                with_reducible rfl
              rotate_left
              · simp only [Act.put, List.setIfInBounds_toArray, List.set_cons_zero, List.set_cons_succ, i64_w, i32_w]
                rfl
              refine pure_ (i := 7) (N := some 18) (v := ?_) (a' := ?_) #[true, true, true, true, true, false, false, true, false, false, false, false, false, false, false, false, false] rfl rfl (any_of HT_.out (by kernel_rfl)) (fun _ _ _ h => h) (Or.inl ⟨by rfl, ?_⟩) ?_ ?_
              rotate_left
              · intro w'
                go_simp
                with_reducible rfl
              rotate_left
              · simp only [Act.put, List.setIfInBounds_toArray, List.set_cons_zero, List.set_cons_succ, i64_w, i32_w]
                rfl
              refine pure_ (i := 8) (N := some 19) (v := ?_) (a' := ?_) #[true, true, true, true, true, false, false, true, true, false, false, false, false, false, false, false, false] rfl rfl (any_of HT_.out (by kernel_rfl)) (fun _ _ _ h => h) (Or.inl ⟨by rfl, ?_⟩) ?_ ?_
              rotate_left
              · intro w'
                go_simp
                with_reducible rfl
              rotate_left
              · simp only [Act.put, List.setIfInBounds_toArray, List.set_cons_zero, List.set_cons_succ, i64_w, i32_w]
                rfl
              refine pure_ (i := 9) (N := some 20) (v := ?_) (a' := ?_) #[true, true, true, true, true, false, false, true, true, true, false, false, false, false, false, false, false] rfl rfl (any_of HT_.out (by kernel_rfl)) (fun _ _ _ h => h) (Or.inl ⟨by rfl, ?_⟩) ?_ ?_
              rotate_left
              · intro w'
                go_simp
                with_reducible rfl
              rotate_left
              · simp only [Act.put, List.setIfInBounds_toArray, List.set_cons_zero, List.set_cons_succ, i64_w, i32_w]
                rfl
              refine pure_ (i := 10) (N := some 21) (v := ?_) (a' := ?_) #[true, true, true, true, true, false, false, true, true, true, true, false, false, false, false, false, false] rfl rfl (any_of HT_.out (by kernel_rfl)) (fun _ _ _ h => h) (Or.inl ⟨by rfl, ?_⟩) ?_ ?_
              rotate_left
              · intro w'
                go_simp
                with_reducible rfl
              rotate_left
              · simp only [Act.put, List.setIfInBounds_toArray, List.set_cons_zero, List.set_cons_succ, i64_w, i32_w]
                rfl
              refine take_ (i := 5) (N := some 16) (v := ?_) (a' := ?_) #[true, true, true, true, true, true, false, true, true, true, true, false, false, false, false, false, false] rfl rfl (take_ofW HT_.out HW_.out (by kernel_rfl)) (fun _ _ _ h => h) (Or.inl ⟨by rfl, ?_⟩) hHeld ?_ ?_
              rotate_left
              · rintro w' ⟨s0, s1, s2, s3⟩
                go_simp
                with_reducible rfl
              rotate_left
              · simp only [Act.put, List.setIfInBounds_toArray, List.set_cons_zero, List.set_cons_succ, i64_w, i32_w]
                rfl
              refine take_ (i := 11) (N := some 22) (v := ?_) (a' := ?_) #[true, true, true, true, true, true, false, true, true, true, true, true, false, false, false, false, false] rfl rfl (take_ofW HT_.out HW_.out (by kernel_rfl)) (fun _ _ _ h => h) (Or.inl ⟨by rfl, ?_⟩) hHeld ?_ ?_
              rotate_left
              · rintro w' ⟨s0, s1, s2, s3⟩
                go_simp
                with_reducible rfl
              rotate_left
              · simp only [Act.put, List.setIfInBounds_toArray, List.set_cons_zero, List.set_cons_succ, i64_w, i32_w]
                rfl
              refine one_ (i := 6) (N := some 17) #[true, true, true, true, true, true, true, true, true, true, true, true, false, false, false, false, false] rfl rfl (one_of HT_.out (by kernel_rfl)) (by decide) (fun K hK => ?_)
              refine Kd.R_lit_step k46 _ 46 ?hg (N := 17) ?hd (xs := ([] : List (S46))) (inner := []) (ok := fun _ => True) (okp := fun _ => True) ?hr ?hp (fun _ hk => hk) trivial (Below.refl _ _) (Nat.le_refl _) (by simp) ?_; (case hd => rfl); (case hg => rfl); (case hr => first | (go_simp; done) | (go_simp; rfl)); (case hp => exact (Reps.none _ _))
              intro v103 w7 ho8 hb hg_ hnew_
              clear hg_ hnew_
              (first | rw [← Ny102.out] at ho8 | (simp only [Int.reduceToNat] at ho8; rw [← Ny102.out] at ho8))
              have n0_ := Aside0.mk (Kd.S_elder' (by (with_reducible repeat (first | apply Kd.S_alloc | apply Kd.S_drewN | apply Kd.S_drew)); exact HO_3.out) (Kd.R_base ho8) hb)
              have n1_ := Aside0.mk (Kd.R_lower ho8 (below_size (by repeat (first | (with_reducible first | exact HB.out | apply below_alloc | apply pw_below_drewN | apply below_drew1) | exact HB.out | exact Below.refl _ _))))
              have n2_ := Aside0.mk (below_step (by repeat (first | (with_reducible first | exact HB.out | apply below_alloc | apply pw_below_drewN | apply below_drew1) | exact HB.out | exact Below.refl _ _)) hb)
              clear HO_3
              clear HB
              have HO_3 := n0_
              have HO104 := n1_
              have HB := n2_
              clear n0_ n1_ n2_
              clear hb ho8
              refine hK.out _ _ ⟨((HB.out.cell (World.block_lt_of_cell? w _ hw101_0)).trans hw101_0), ((HB.out.cell (World.block_lt_of_cell? w _ hw101_1)).trans hw101_1), ((HB.out.cell (World.block_lt_of_cell? w _ hw105_0)).trans hw105_0), ((HB.out.cell (World.block_lt_of_cell? w _ hw105_1)).trans hw105_1)⟩ (fun hHeld => ?_)
              clear hK K
              refine norm_ (a' := ?_) ?_ ?_
              rotate_left
              · show Act.put _ (some 17) _ = _
                simp only [Act.put, List.setIfInBounds_toArray, List.set_cons_zero, List.set_cons_succ, i64_w, i32_w]
                rfl
              refine one_ (i := 12) (N := some 23) #[true, true, true, true, true, true, true, true, true, true, true, true, true, false, false, false, false] rfl rfl (one_of HT_.out (by kernel_rfl)) (by decide) (fun K hK => ?_)
              refine Kd.R_append_rows_step k46 (w0 := w) w.heap.size (by rfl) (.tmp 17) (.tmp 22) 24 46 (.agg #[(.int .i64 0), (.int .u8 0), (.int .i64 0), (.int .u64 0), (.string ⟨#[]⟩)]) 48 rfl Try.underlying24 info46 rfl (by decide) (by omega) v103 y102 ((rd_T34 l0 x4_1).f1) _ _ _ (fun _ => True) (fun _ => False) rfl rfl ?aO ?aR (fun _ _ h => h) (fun _ h => h.elim) ?aF ?aB ?aS ?aL ?_
              (case aR => repeat (first | exact (Kd.C_below HR105_1.out HB.out) | (with_reducible refine Kd.C_alloc ?_ _) | (with_reducible refine Kd.C_drewN ?_ _) | (with_reducible refine Kd.C_drew ?_)))
              (case aB => exact (by repeat (first | (with_reducible first | exact HB.out | apply below_alloc | apply pw_below_drewN | apply below_drew1) | exact HB.out | exact Below.refl _ _)))
              (case aF => exact (fun _ _ => trivial))
              (case aO => exact (by (with_reducible repeat (first | apply Kd.R_alloc | apply Kd.R_drewN | apply Kd.R_drew)); exact HO104.out))
              (case aS => exact (below_size (by repeat (first | (with_reducible first | exact HB.out | apply below_alloc | apply pw_below_drewN | apply below_drew1) | exact HB.out | exact Below.refl _ _))))
              (case aL => have := LMc4.out; omega)
              intro v107 w9 ho hb hg hat
              rw [← Ny106.out] at ho
              have n0_ := Aside0.mk (Kd.S_after (ok := (fun _ => True)) (by (with_reducible repeat (first | apply Kd.S_alloc | apply Kd.S_drewN | apply Kd.S_drew)); exact HO_3.out) hg hat)
              have n1_ := Aside0.mk (hb)
              have n2_ := Aside0.mk (ho)
              clear HO_3
              clear HB
              clear HO104
              have HO_3 := n0_
              have HB := n1_
              have HO108 := n2_
              clear n0_ n1_ n2_
              clear ho hb hg hat
              obtain ⟨Ao10, co10, eo10⟩ := Kd.R_slice HO108.out
              (first | subst eo10 | (injection eo10 with f1_ f2_ f3_; have f4_ := f1_.symm; have f5_ := f3_.symm; clear f1_ f2_ f3_; subst f4_; subst f5_))
              refine hK.out _ _ ⟨((HB.out.cell (World.block_lt_of_cell? w _ hw101_0)).trans hw101_0), ((HB.out.cell (World.block_lt_of_cell? w _ hw101_1)).trans hw101_1), ((HB.out.cell (World.block_lt_of_cell? w _ hw105_0)).trans hw105_0), ((HB.out.cell (World.block_lt_of_cell? w _ hw105_1)).trans hw105_1)⟩ (fun hHeld => ?_)
              clear hK K
              refine norm_ (a' := ?_) ?_ ?_
              rotate_left
              · show Act.put _ (some 23) _ = _
                simp only [Act.put, List.setIfInBounds_toArray, List.set_cons_zero, List.set_cons_succ, i64_w, i32_w]
                rfl
              refine pure_ (i := 13) (N := some 24) (v := ?_) (a' := ?_) #[true, true, true, true, true, true, true, true, true, true, true, true, true, true, false, false, false] rfl rfl (any_of HT_.out (by kernel_rfl)) (fun _ _ _ h => h) (Or.inl ⟨by rfl, ?_⟩) ?_ ?_
              rotate_left
              · intro w'
                go_simp
                with_reducible rfl
              rotate_left
              · simp only [Act.put, List.setIfInBounds_toArray, List.set_cons_zero, List.set_cons_succ, i64_w, i32_w]
                rfl
              refine one_ (i := 14) (N := some 25) #[true, true, true, true, true, true, true, true, true, true, true, true, true, true, true, false, false] rfl rfl (one_of HT_.out (by kernel_rfl)) (by decide) (fun K hK => ?_)
              refine value_ (w1 := ?_) (v := ?_) (by rfl) rfl ?_ ?_
              rotate_left 2
              · go_simp
                constructor
                · rfl
                · rfl
              refine hK.out _ _ ⟨(World.cell?_alloc_lt _ _ _ (World.block_lt_of_cell? _ _ (((HB.out.cell (World.block_lt_of_cell? w _ hw101_0)).trans hw101_0)))).trans (((HB.out.cell (World.block_lt_of_cell? w _ hw101_0)).trans hw101_0)), (World.cell?_alloc_lt _ _ _ (World.block_lt_of_cell? _ _ (((HB.out.cell (World.block_lt_of_cell? w _ hw101_1)).trans hw101_1)))).trans (((HB.out.cell (World.block_lt_of_cell? w _ hw101_1)).trans hw101_1)), (World.cell?_alloc_lt _ _ _ (World.block_lt_of_cell? _ _ (((HB.out.cell (World.block_lt_of_cell? w _ hw105_0)).trans hw105_0)))).trans (((HB.out.cell (World.block_lt_of_cell? w _ hw105_0)).trans hw105_0)), (World.cell?_alloc_lt _ _ _ (World.block_lt_of_cell? _ _ (((HB.out.cell (World.block_lt_of_cell? w _ hw105_1)).trans hw105_1)))).trans (((HB.out.cell (World.block_lt_of_cell? w _ hw105_1)).trans hw105_1))⟩ (fun hHeld => ?_)
              clear hK K
              refine norm_ (a' := ?_) ?_ ?_
              rotate_left
              · show Act.put _ (some 25) _ = _
                simp only [Act.put, List.setIfInBounds_toArray, List.set_cons_zero, List.set_cons_succ, i64_w, i32_w]
                rfl
              refine one_ (i := 15) (N := some 26) #[true, true, true, true, true, true, true, true, true, true, true, true, true, true, true, true, false] rfl rfl (one_of HT_.out (by kernel_rfl)) (by decide) (fun K hK => ?_)
              refine Kd.S_append_step k34 (w0 := w) w.heap.size (by rfl) (.tmp 11) (.tmp 25) 27 34 (.agg #[(.int .i64 0), (.slice none 0 0)]) 32 rfl Try.underlying27 info34 rfl (by decide) (by omega) u3 x3_1 (⟨(rd_T34 l0 x4_1).f0, y106⟩ : S34) [.int .i64 ((rd_T34 l0 x4_1).f0), .slice Ao10 y106.length co10] (fun _ => True) (fun k_ => some k_ = (.slice Ao10 y106.length co10 : Value).ownBlock) rfl rfl ?aP (fun k_ hk_ => ((Kd.R_mono (ok' := fun k_ => ((fun _ => True)) k_ ∧ some k_ ≠ (u3 : Value).ownBlock) (Kd.R_apart' (HO108.out) (Kd.S_typed HO_3.out) (by decide)) (fun k_ hk => ⟨trivial, hk.2⟩))).1 k_ hk_.symm) ?aF ?aO ?aB ?aS ?aL ?_
              (case aP => exact k34_mkM _ _ _ (⟨(rd_T34 l0 x4_1).f0, y106⟩ : S34) (Kd.R_mono (Kd.R_tight rfl (Kd.R_mono (ok' := fun k_ => ((fun _ => True)) k_ ∧ some k_ ≠ (u3 : Value).ownBlock) (Kd.R_apart' (HO108.out) (Kd.S_typed HO_3.out) (by decide)) (fun k_ hk => ⟨trivial, hk.2⟩))) (fun _ h_ => h_)))
              (case aB => exact (by repeat (first | (with_reducible first | exact HB.out | apply below_alloc | apply pw_below_drewN | apply below_drew1) | exact HB.out | exact Below.refl _ _)))
              (case aF => exact (fun _ _ => trivial))
              (case aO => exact (by (with_reducible repeat (first | apply Kd.S_alloc | apply Kd.S_drewN | apply Kd.S_drew)); exact Kd.S_mono HO_3.out (fun k_ hk => ⟨trivial, fun e_ => hk.2 e_⟩)))
              (case aS => exact (below_size (by repeat (first | (with_reducible first | exact HB.out | apply below_alloc | apply pw_below_drewN | apply below_drew1) | exact HB.out | exact Below.refl _ _))))
              (case aL => have := LMc5.out; omega)
              intro v110 w11 ho hb hg hat
              rw [← Ny109.out] at ho
              have n0_ := Aside0.mk (hb)
              have n1_ := Aside0.mk (ho)
              clear HB
              clear HO_3
              clear HO108
              have HB := n0_
              have HO111 := n1_
              clear n0_ n1_
              clear ho hb hg hat
              refine hK.out _ _ ⟨((HB.out.cell (World.block_lt_of_cell? w _ hw101_0)).trans hw101_0), ((HB.out.cell (World.block_lt_of_cell? w _ hw101_1)).trans hw101_1), ((HB.out.cell (World.block_lt_of_cell? w _ hw105_0)).trans hw105_0), ((HB.out.cell (World.block_lt_of_cell? w _ hw105_1)).trans hw105_1)⟩ (fun hHeld => ?_)
              clear hK K
              refine norm_ (a' := ?_) ?_ ?_
              rotate_left
              · show Act.put _ (some 26) _ = _
                simp only [Act.put, List.setIfInBounds_toArray, List.set_cons_zero, List.set_cons_succ, i64_w, i32_w]
                rfl
              refine pure_ (i := 16) (N := some 3) (v := ?_) (a' := ?_) #[true, true, true, true, true, true, true, true, true, true, true, true, true, true, true, true, true] rfl rfl (any_of HT_.out (by kernel_rfl)) (fun _ _ _ h => h) (Or.inl ⟨by rfl, ?_⟩) ?_ ?_
              rotate_left
              · intro w'
                go_simp
                with_reducible rfl
              rotate_left
              · simp only [Act.put, List.setIfInBounds_toArray, List.set_cons_zero, List.set_cons_succ, i64_w, i32_w]
                rfl
              refine done_ (done_of HT_.out (by kernel_rfl)) ?_
              try go_wp2
              go_roundg k1
              case measure => have := HK1.out; omega
              case rel => exact ⟨(y109), (wrap64 (x4_1 + 1)), (by first | rfl | (simp; done) | (simp [*]; done)), H', ⟨by have := HK1.out; omega⟩, ⟨by (with_reducible repeat (first | apply Kd.S_alloc | apply Kd.S_drewN | apply Kd.S_drew)); exact HO111.out⟩, ⟨by repeat (first | (with_reducible first | exact HB.out | apply below_alloc | apply pw_below_drewN | apply below_drew1) | exact HB.out | exact Below.refl _ _)⟩⟩
            · rw [if_neg c5] at H
              exact absurd H (by simp)
          · rw [if_neg c4] at H
            exact absurd H (by simp)
        · rw [if_neg c3] at H
          exact absurd H (by simp)
      · rw [if_neg c2] at H
        have c2b0 : decide (x4_1 < (l0.length : Int)) = false := decide_eq_false c2
        clear c2
        obtain rfl := Option.some.inj H
        go_wp2
        go_ret
        exact ⟨_, by first | rfl | (simp [errW_none, errW_some] <;> rfl) | (simp [*, errW_none, errW_some] <;> rfl), by (with_reducible repeat (first | apply Kd.S_alloc | apply Kd.S_drewN | apply Kd.S_drew)); exact HO_3.out, by repeat (first | (with_reducible first | exact HB.out | apply below_alloc | apply pw_below_drewN | apply below_drew1) | exact HB.out | exact Below.refl _ _)⟩
/-! ### api_Attr_31: function 31 -/
def api_Attr_31.l0 : Nat → List (S46) → List (S46) → Int → Int → Option (Bool)
  | 0, _, _, _, _ => none
  | k + 1, x0, x1, x12, x13 => if x13 < x12 then (if 0 ≤ x13 then (if x13 < (x0.length : Int) then (if x13 < (x1.length : Int) then (if (!(((rd_T46 x0 x13).f0) == ((rd_T46 x1 x13).f0)) || ((!(((rd_T46 x0 x13).f1.f0) == ((rd_T46 x1 x13).f1.f0)) || (!(((rd_T46 x0 x13).f1.f1) == ((rd_T46 x1 x13).f1.f1)) || (!(((rd_T46 x0 x13).f1.f2) == ((rd_T46 x1 x13).f1.f2)) || (!((((rd_T46 x0 x13).f1.f3).toList) == (((rd_T46 x1 x13).f1.f3).toList)))))))) = true then (some false) else (api_Attr_31.l0 k x0 x1 x12 (wrap64 (x13 + 1)))) else (none)) else (none)) else (none)) else (some true)
def api_Attr_31.f (k : Nat) (l0 : List (S46)) (l1 : List (S46)) : Option (Bool) := if (l0.length : Int) = (l1.length : Int) then (api_Attr_31.l0 k l0 l1 (l0.length : Int) 0) else (some false)
set_option maxHeartbeats 8000000 in
set_option maxRecDepth 100000 in
theorem api_Attr_31.calls (k : Nat) (A0 : Option Addr) (c0 : Nat) (l0 : List (S46)) (A1 : Option Addr) (c1 : Nat) (l1 : List (S46)) (r : Bool) (w : World) (hr0 : Kd.C k46 w A0 l0.length l0) (hc0 : l0.length ≤ c0) (hr1 : Kd.C k46 w A1 l1.length l1) (hc1 : l1.length ≤ c1) (h : api_Attr_31.f k l0 l1 = some r) :
    Calls Try.prog 31 #[.slice A0 l0.length c0, .slice A1 l1.length c1] w fun e w' => e = .returned (.bool r) ∧ Drawn0 w w' := by
  have hu46 := Try.underlying46
  have HR0 := Aside0.mk hr0
  have HC0 := Aside0.mk hc0
  clear hr0 hc0
  have HR1 := Aside0.mk hr1
  have HC1 := Aside0.mk hc1
  clear hr1 hc1
  have H : (if (l0.length : Int) = (l1.length : Int) then (api_Attr_31.l0 k l0 l1 (l0.length : Int) 0) else (some false)) = some r := h
  clear h
  by_cases c3 : (l0.length : Int) = (l1.length : Int)
  · rw [if_pos c3] at H
    have c3b0 : ((l0.length : Int) == (l1.length : Int)) = true := beq_iff_eq.mpr c3
    have c3b1 : ((l0.length : Int) != (l1.length : Int)) = false := bne_eq_false_iff_eq.mpr c3
    have c3b2 : (l0.length == l1.length) = true := by first | simpa using c3 | (simp at c3 ⊢; omega)
    clear c3
    have H' := Aside0.mk H
    clear H
    go_enter Try.func31, Try.ntmps31
    go_wp2
    repeat (go_quiet (fail); try go_wp2)
    go_loopg [13] k (fun kq v13 w' => ∃ (x13_1 : Int), v13 = .int .i64 x13_1 ∧ Aside0 (api_Attr_31.l0 kq l0 l1 (l0.length : Int) x13_1 = some r) ∧ Aside0 (kq ≤ k) ∧ Drawn0 w w')
    case atStart => exact ⟨(0), (by first | rfl | (simp; done) | (simp [*]; done)), H', ⟨Nat.le_refl _⟩, by repeat (first | exact Drawn0.refl _ | apply Drawn0.step)⟩
    case round =>
      clear H'
      try clear c1
      try clear p2
      try clear c3
      try clear c3b0
      try clear c3b0d c3b0p
      try clear c3b0d
      try clear c3b1
      try clear c3b1d c3b1p
      try clear c3b1d
      try clear c3b2
      try clear c3b2d c3b2p
      try clear c3b2d
      obtain ⟨x13_1, rfl, HA, HK1, ⟨m1, rfl⟩⟩ := hrel
      cases gk with
      | zero => exact absurd HA.out (by simp [api_Attr_31.l0])
      | succ k1 =>
        have H := HA.out
        clear HA
        simp only [api_Attr_31.l0] at H
        by_cases c4 : x13_1 < (l0.length : Int)
        · rw [if_pos c4] at H
          have c4b0 : decide (x13_1 < (l0.length : Int)) = true := decide_eq_true c4
          clear c4
          by_cases c5 : 0 ≤ x13_1
          · rw [if_pos c5] at H
            have c5b0 : decide (0 ≤ x13_1) = true := decide_eq_true c5
            clear c5
            by_cases c6 : x13_1 < (l0.length : Int)
            · rw [if_pos c6] at H
              have c6b0 : decide (x13_1 < (l0.length : Int)) = true := decide_eq_true c6
              clear c6
              by_cases c7 : x13_1 < (l1.length : Int)
              · rw [if_pos c7] at H
                have c7b0 : decide (x13_1 < (l1.length : Int)) = true := decide_eq_true c7
                clear c7
                by_cases c8 : (!(((rd_T46 l0 x13_1).f0) == ((rd_T46 l1 x13_1).f0)) || ((!(((rd_T46 l0 x13_1).f1.f0) == ((rd_T46 l1 x13_1).f1.f0)) || (!(((rd_T46 l0 x13_1).f1.f1) == ((rd_T46 l1 x13_1).f1.f1)) || (!(((rd_T46 l0 x13_1).f1.f2) == ((rd_T46 l1 x13_1).f1.f2)) || (!((((rd_T46 l0 x13_1).f1.f3).toList) == (((rd_T46 l1 x13_1).f1.f3).toList)))))))) = true
                · rw [if_pos c8] at H
                  have c8b0 : (!(((rd_T46 l0 x13_1).f0) == ((rd_T46 l1 x13_1).f0)) || ((!(((rd_T46 l0 x13_1).f1.f0) == ((rd_T46 l1 x13_1).f1.f0)) || (!(((rd_T46 l0 x13_1).f1.f1) == ((rd_T46 l1 x13_1).f1.f1)) || (!(((rd_T46 l0 x13_1).f1.f2) == ((rd_T46 l1 x13_1).f1.f2)) || (!((((rd_T46 l0 x13_1).f1.f3).toList) == (((rd_T46 l1 x13_1).f1.f3).toList)))))))) = true := c8
                  clear c8
                  obtain rfl := Option.some.inj H
                  have p112 : 0 ≤ (x13_1 : Int) := of_decide_eq_true (by first | (with_reducible assumption) | assumption)
                  have q112 : x13_1 < (l0.length : Int) := of_decide_eq_true (by first | (with_reducible assumption) | assumption)
                  obtain ⟨ad112, e112, hx112_0, hx112_1, hx112_2, hx112_3, hx112_4⟩ := at_T46 HR0.out x13_1 p112 q112
                  cases e112
                  replace p112 := eq_true p112
                  replace q112 := eq_true q112
                  have p113 : 0 ≤ (x13_1 : Int) := of_decide_eq_true (by first | (with_reducible assumption) | assumption)
                  have q113 : x13_1 < (l1.length : Int) := of_decide_eq_true (by first | (with_reducible assumption) | assumption)
                  obtain ⟨ad113, e113, hx113_0, hx113_1, hx113_2, hx113_3, hx113_4⟩ := at_T46 HR1.out x13_1 p113 q113
                  cases e113
                  replace p113 := eq_true p113
                  replace q113 := eq_true q113
                  go_wp2
                  repeat (go_quiet (fail); try go_wp2)
                  go_ret
                  exact ⟨by first | rfl | (simp; done) | (simp [*]; done), by repeat (first | exact Drawn0.refl _ | apply Drawn0.step)⟩
                · rw [if_neg c8] at H
                  have c8b0 : (!(((rd_T46 l0 x13_1).f0) == ((rd_T46 l1 x13_1).f0)) || ((!(((rd_T46 l0 x13_1).f1.f0) == ((rd_T46 l1 x13_1).f1.f0)) || (!(((rd_T46 l0 x13_1).f1.f1) == ((rd_T46 l1 x13_1).f1.f1)) || (!(((rd_T46 l0 x13_1).f1.f2) == ((rd_T46 l1 x13_1).f1.f2)) || (!((((rd_T46 l0 x13_1).f1.f3).toList) == (((rd_T46 l1 x13_1).f1.f3).toList)))))))) = false := by simpa using c8
                  clear c8
                  have H' := Aside0.mk H
                  clear H
                  have p112 : 0 ≤ (x13_1 : Int) := of_decide_eq_true (by first | (with_reducible assumption) | assumption)
                  have q112 : x13_1 < (l0.length : Int) := of_decide_eq_true (by first | (with_reducible assumption) | assumption)
                  obtain ⟨ad112, e112, hx112_0, hx112_1, hx112_2, hx112_3, hx112_4⟩ := at_T46 HR0.out x13_1 p112 q112
                  cases e112
                  replace p112 := eq_true p112
                  replace q112 := eq_true q112
                  have p113 : 0 ≤ (x13_1 : Int) := of_decide_eq_true (by first | (with_reducible assumption) | assumption)
                  have q113 : x13_1 < (l1.length : Int) := of_decide_eq_true (by first | (with_reducible assumption) | assumption)
                  obtain ⟨ad113, e113, hx113_0, hx113_1, hx113_2, hx113_3, hx113_4⟩ := at_T46 HR1.out x13_1 p113 q113
                  cases e113
                  replace p113 := eq_true p113
                  replace q113 := eq_true q113
                  go_wp2
                  repeat (go_quiet (fail); try go_wp2)
                  go_roundg k1
                  case measure => have := HK1.out; omega
                  case rel => exact ⟨(wrap64 (x13_1 + 1)), (by first | rfl | (simp; done) | (simp [*]; done)), H', ⟨by have := HK1.out; omega⟩, by repeat (first | exact Drawn0.refl _ | apply Drawn0.step)⟩
              · rw [if_neg c7] at H
                exact absurd H (by simp)
            · rw [if_neg c6] at H
              exact absurd H (by simp)
          · rw [if_neg c5] at H
            exact absurd H (by simp)
        · rw [if_neg c4] at H
          have c4b0 : decide (x13_1 < (l0.length : Int)) = false := decide_eq_false c4
          clear c4
          obtain rfl := Option.some.inj H
          go_wp2
          repeat (go_quiet (fail); try go_wp2)
          go_ret
          exact ⟨by first | rfl | (simp; done) | (simp [*]; done), by repeat (first | exact Drawn0.refl _ | apply Drawn0.step)⟩
  · rw [if_neg c3] at H
    have c3b0 : ((l0.length : Int) == (l1.length : Int)) = false := beq_eq_false_iff_ne.mpr c3
    have c3b1 : ((l0.length : Int) != (l1.length : Int)) = true := bne_iff_ne.mpr c3
    have c3b2 : (l0.length == l1.length) = false := by first | simpa using c3 | (simp at c3 ⊢; omega)
    obtain rfl := Option.some.inj H
    go_enter Try.func31, Try.ntmps31
    go_wp2
    repeat (go_quiet (fail); try go_wp2)
    go_ret
    exact ⟨by first | rfl | (simp; done) | (simp [*]; done), by repeat (first | exact Drawn0.refl _ | apply Drawn0.step)⟩
/-! ### attrs_Same: function 28 -/
def attrs_Same.f (k : Nat) (l0 : List (S46)) (l1 : List (S46)) : Option (Bool) := (api_Attr_31.f k l0 l1).bind fun t114 => (some t114)
set_option maxHeartbeats 8000000 in
set_option maxRecDepth 100000 in
theorem attrs_Same.calls (k : Nat) (A0 : Option Addr) (c0 : Nat) (l0 : List (S46)) (A1 : Option Addr) (c1 : Nat) (l1 : List (S46)) (r : Bool) (w : World) (hr0 : Kd.C k46 w A0 l0.length l0) (hc0 : l0.length ≤ c0) (hr1 : Kd.C k46 w A1 l1.length l1) (hc1 : l1.length ≤ c1) (h : attrs_Same.f k l0 l1 = some r) :
    Calls Try.prog 28 #[.slice A0 l0.length c0, .slice A1 l1.length c1] w fun e w' => e = .returned (.bool r) ∧ Drawn0 w w' := by
  have HR0 := Aside0.mk hr0
  have HC0 := Aside0.mk hc0
  clear hr0 hc0
  have HR1 := Aside0.mk hr1
  have HC1 := Aside0.mk hc1
  clear hr1 hc1
  have H : ((api_Attr_31.f k l0 l1).bind fun t114 => (some t114)) = some r := h
  clear h
  replace H := Option.bind_eq_some_iff.mp H
  obtain ⟨t114, A30, H⟩ := H
  replace H : (some t114) = some r := H
  have A3 := Aside0.mk A30
  clear A30
  obtain rfl := Option.some.inj H
  go_enter Try.func28, Try.ntmps28
  go_wp2_with (first | ((with_reducible refine gate_callee (f := 31) rfl ?_); refine goesL_ (some 7) rfl rfl Try.func31 (by kernel_rfl) rfl #[.slice A0 l0.length c0, .slice A1 l1.length c1] rfl (by (try simp only [List.map_toArray, List.map_cons, List.map_nil]); first | done | rfl | (simp only [List.length_drop, List.length_take]; rfl)) ?_; (with_reducible refine (api_Attr_31.calls k _ _ l0 _ _ l1 t114 _ ?side1 ?side2 ?side3 ?side4 A3.out).mono ?_); (case side1 => repeat (first | exact HR0.out | (with_reducible refine Kd.C_alloc ?_ _) | (with_reducible refine Kd.C_drewN ?_ _) | (with_reducible refine Kd.C_drew ?_))); (case side2 => exact HC0.out); (case side3 => repeat (first | exact HR1.out | (with_reducible refine Kd.C_alloc ?_ _) | (with_reducible refine Kd.C_drewN ?_ _) | (with_reducible refine Kd.C_drew ?_))); (case side4 => exact HC1.out); rintro e w' ⟨rfl, ⟨nd, rfl⟩⟩; refine ⟨_, rfl, ?_⟩))
  go_ret
  exact ⟨by first | rfl | (simp; done) | (simp [*]; done), by repeat (first | exact Drawn0.refl _ | apply Drawn0.step)⟩
/-! ### api_Attr_26: function 26 -/
def api_Attr_26.f (l0 : List (S46)) : Option ((List (S46))) := (some (([] : List (S46)) : List (S46))).bind fun y115 => (if y115.length + l0.length < 2932031007402 then (some (y115 ++ l0)) else (none))
set_option maxHeartbeats 8000000 in
set_option maxRecDepth 100000 in
theorem api_Attr_26.calls (A0 : Option Addr) (c0 : Nat) (l0 : List (S46)) (r : List (S46)) (w : World) (hr0 : Kd.C k46 w A0 l0.length l0) (hc0 : l0.length ≤ c0) (h : api_Attr_26.f l0 = some r) :
    Calls Try.prog 26 #[.slice A0 l0.length c0] w fun e w' => ∃ v0_ : Value, e = .returned (v0_) ∧ Kd.R k46 46 w' w.heap.size (fun _ => True) v0_ r ∧ Below w.heap.size w w' := by
  rcases A0 with _ | ad0
  · have hl0 : l0 = [] := by
      obtain ⟨hl_, _, ha_⟩ := hr0
      rcases Nat.eq_zero_or_pos l0.length with hz | hz
      · exact List.eq_nil_of_length_eq_zero hz
      · obtain ⟨ad_, hx_, _⟩ := ha_ hz
        cases hx_
    subst hl0
    have hr : r = [] := by
      unfold api_Attr_26.f at h
      simp only [Option.bind_some, List.append_nil] at h
      split at h
      · exact (Option.some.inj h).symm
      · cases h
    subst hr
    have heq := fun (W : World) (q c : Nat) => Lib.run_eql_slice_nil (P := Try.prog) W 24 46 none q c 0 0 Try.underlying24
    clear h hr0
    go_enter Try.func26, Try.ntmps26
    go_wp2
    go_ret
    exact ⟨_, rfl, by first | exact Kd.R_nil _ _ _ _ _ | exact Kd.N_nil _ _ _ _ _ | exact Kd.V_nil _ _ _ _ _ | exact Kd.Q_nil _ _ _ _ _ | exact Kd.S_nil _ _ _ _ _, by repeat (first | exact Below.refl _ _ | apply below_alloc | apply pw_below_drewN | apply below_drew1)⟩
  · have heq := fun (W : World) (q c : Nat) => Lib.run_eql_slice_nil (P := Try.prog) W 24 46 (some ad0) q c 0 0 Try.underlying24
    have HR0 := Aside0.mk hr0
    have HC0 := Aside0.mk hc0
    clear hr0 hc0
    have HB := Aside0.mk (Below.refl w.heap.size w)
    have H : ((some (([] : List (S46)) : List (S46))).bind fun y115 => (if y115.length + l0.length < 2932031007402 then (some (y115 ++ l0)) else (none))) = some r := h
    clear h
    obtain ⟨y115, hy115⟩ : ∃ y_ : List (S46), y_ = (([] : List (S46))) := ⟨_, rfl⟩
    replace H : (if y115.length + l0.length < 2932031007402 then (some (y115 ++ l0)) else (none)) = some r := by first | (rw [hy115]; with_reducible exact H) | (have H2_ := (Option.bind_some _ _).symm.trans H; rw [hy115]; with_reducible exact H2_) | (have H2_ := (Option.bind_some _ _).symm.trans H; with_reducible exact H2_) | with_reducible exact H | (rw [hy115]; exact H) | exact H
    have Ny115 := Aside0.mk hy115
    clear hy115
    by_cases c2 : y115.length + l0.length < 2932031007402
    · rw [if_pos c2] at H
      have LMc2 := Aside0.mk c2
      clear c2
      obtain ⟨y118, hy118⟩ : ∃ y_ : List (S46), y_ = (y115 ++ l0) := ⟨_, rfl⟩
      replace H : (some y118) = some r := by first | (rw [hy118]; with_reducible exact H) | (have H2_ := (Option.bind_some _ _).symm.trans H; rw [hy118]; with_reducible exact H2_) | (have H2_ := (Option.bind_some _ _).symm.trans H; with_reducible exact H2_) | with_reducible exact H | (rw [hy118]; exact H) | exact H
      have Ny118 := Aside0.mk hy118
      clear hy118
      obtain rfl := Option.some.inj H
      go_enter Try.func26, Try.ntmps26
      go_wp2_with (first | ((with_reducible refine gate_dst (N := 5) rfl ?_); refine Kd.R_lit k46 _ 46 ?hg (N := 5) ?hd (xs := ([] : List (S46))) (inner := []) (ok := fun _ => True) (okp := fun _ => True) ?hr ?hp (fun _ hk => hk) trivial (Below.refl _ _) (Nat.le_refl _) (by simp) ?_; (case hd => rfl); (case hg => rfl); (case hr => first | (go_simp; done) | (go_simp; rfl)); (case hp => exact (Reps.none _ _)); intro v116 w3 ho4 hb hg_ hnew_; clear hg_ hnew_; (first | rw [← Ny115.out] at ho4 | (simp only [Int.reduceToNat] at ho4; rw [← Ny115.out] at ho4)); have n0_ := Aside0.mk (Kd.R_lower ho4 (below_size (by repeat (first | (with_reducible first | exact HB.out | apply below_alloc | apply pw_below_drewN | apply below_drew1) | exact HB.out | exact Below.refl _ _)))); have n1_ := Aside0.mk (below_step (by repeat (first | (with_reducible first | exact HB.out | apply below_alloc | apply pw_below_drewN | apply below_drew1) | exact HB.out | exact Below.refl _ _)) hb); clear HB; have HO117 := n0_; have HB := n1_; clear n0_ n1_; clear hb ho4) | ((with_reducible refine gate_builtin (b := .append) (xs := #[.tmp 5, .tmp 6]) rfl ?_); at_builtin; refine Kd.R_append_rows k46 (w0 := w) w.heap.size rfl (.tmp 5) (.tmp 6) 24 46 (.agg #[(.int .i64 0), (.int .u8 0), (.int .i64 0), (.int .u64 0), (.string ⟨#[]⟩)]) 48 rfl Try.underlying24 info46 rfl (by decide) (by omega) v116 y115 l0 _ _ _ (fun _ => True) (fun _ => False) rfl rfl ?aO ?aR (fun _ _ h => h) (fun _ h => h.elim) ?aF ?aB ?aS ?aL ?_; (case aR => repeat (first | exact (Kd.C_below HR0.out HB.out) | (with_reducible refine Kd.C_alloc ?_ _) | (with_reducible refine Kd.C_drewN ?_ _) | (with_reducible refine Kd.C_drew ?_))); (case aB => exact (by repeat (first | (with_reducible first | exact HB.out | apply below_alloc | apply pw_below_drewN | apply below_drew1) | exact HB.out | exact Below.refl _ _))); (case aF => exact (fun _ _ => trivial)); (case aO => exact (by (with_reducible repeat (first | apply Kd.R_alloc | apply Kd.R_drewN | apply Kd.R_drew)); exact HO117.out)); (case aS => exact (below_size (by repeat (first | (with_reducible first | exact HB.out | apply below_alloc | apply pw_below_drewN | apply below_drew1) | exact HB.out | exact Below.refl _ _)))); (case aL => have := LMc2.out; omega); intro v119 w5 ho hb hg hat; rw [← Ny118.out] at ho; have n0_ := Aside0.mk (hb); have n1_ := Aside0.mk (ho); clear HB; clear HO117; have HB := n0_; have HO120 := n1_; clear n0_ n1_; clear ho hb hg hat))
      go_ret
      exact ⟨_, by first | rfl | (simp [errW_none, errW_some] <;> rfl) | (simp [*, errW_none, errW_some] <;> rfl), by (with_reducible repeat (first | apply Kd.R_alloc | apply Kd.R_drewN | apply Kd.R_drew)); exact HO120.out, by repeat (first | (with_reducible first | exact HB.out | apply below_alloc | apply pw_below_drewN | apply below_drew1) | exact HB.out | exact Below.refl _ _)⟩
    · rw [if_neg c2] at H
      exact absurd H (by simp)
/-! ### attrs_Copy: function 29 -/
def attrs_Copy.f (l0 : List (S46)) : Option ((List (S46))) := (api_Attr_26.f l0).bind fun t121 => (some t121)
set_option maxHeartbeats 8000000 in
set_option maxRecDepth 100000 in
theorem attrs_Copy.calls (A0 : Option Addr) (c0 : Nat) (l0 : List (S46)) (r : List (S46)) (w : World) (hr0 : Kd.C k46 w A0 l0.length l0) (hc0 : l0.length ≤ c0) (h : attrs_Copy.f l0 = some r) :
    Calls Try.prog 29 #[.slice A0 l0.length c0] w fun e w' => ∃ v0_ : Value, e = .returned (v0_) ∧ Kd.R k46 46 w' w.heap.size (fun _ => True) v0_ r ∧ Below w.heap.size w w' := by
  have HR0 := Aside0.mk hr0
  have HC0 := Aside0.mk hc0
  clear hr0 hc0
  have HB := Aside0.mk (Below.refl w.heap.size w)
  have H : ((api_Attr_26.f l0).bind fun t121 => (some t121)) = some r := h
  clear h
  replace H := Option.bind_eq_some_iff.mp H
  obtain ⟨t121, A20, H⟩ := H
  replace H : (some t121) = some r := H
  have A2 := Aside0.mk A20
  clear A20
  obtain rfl := Option.some.inj H
  go_enter Try.func29, Try.ntmps29
  go_wp2_with (first | ((with_reducible refine gate_callee (f := 26) rfl ?_); refine goesL_ (some 4) rfl rfl Try.func26 (by kernel_rfl) rfl #[.slice A0 l0.length c0] rfl (by (try simp only [List.map_toArray, List.map_cons, List.map_nil]); first | done | rfl | (simp only [List.length_drop, List.length_take]; rfl)) ?_; (with_reducible refine (api_Attr_26.calls _ _ l0 t121 _ ?side1 ?side2 A2.out).mono ?_); (case side1 => repeat (first | exact HR0.out | (with_reducible refine Kd.C_alloc ?_ _) | (with_reducible refine Kd.C_drewN ?_ _) | (with_reducible refine Kd.C_drew ?_))); (case side2 => exact HC0.out); rintro e w3 ⟨v122, rfl, ho0, hb⟩; refine ⟨_, rfl, ?_⟩; have n0_ := Aside0.mk (Kd.R_lower ho0 (below_size (by repeat (first | (with_reducible first | exact HB.out | apply below_alloc | apply pw_below_drewN | apply below_drew1) | exact HB.out | exact Below.refl _ _)))); have n1_ := Aside0.mk (below_step (by repeat (first | (with_reducible first | exact HB.out | apply below_alloc | apply pw_below_drewN | apply below_drew1) | exact HB.out | exact Below.refl _ _)) hb); clear HB; have HO123 := n0_; have HB := n1_; clear n0_ n1_; (try clear hb); (try clear hb2); (try clear hk); (try clear hi); (try clear ho0)))
  go_ret
  exact ⟨_, by first | rfl | (simp [errW_none, errW_some] <;> rfl) | (simp [*, errW_none, errW_some] <;> rfl), by (with_reducible repeat (first | apply Kd.R_alloc | apply Kd.R_drewN | apply Kd.R_drew)); exact HO123.out, by repeat (first | (with_reducible first | exact HB.out | apply below_alloc | apply pw_below_drewN | apply below_drew1) | exact HB.out | exact Below.refl _ _)⟩
/-! ### blocks_add: function 24 -/
def blocks_add.f (k : Nat) (l0 : List (S34)) (a1 : Int) (l2 : List (S46)) : Option ((List (S34))) := (if a1 ≤ 0 then (some l0) else (if (wrap64 ((l0.length : Int) - 1)) ≥ 0 then (if 0 ≤ (wrap64 ((l0.length : Int) - 1)) then (if (wrap64 ((l0.length : Int) - 1)) < (l0.length : Int) then ((attrs_Same.f k ((rd_T34 l0 (wrap64 ((l0.length : Int) - 1))).f1) l2).bind fun t128 => (if t128 = true then (some (l0.set ((wrap64 ((l0.length : Int) - 1)) : Int).toNat (⟨wrap64 (((rd_T34 l0 (wrap64 ((l0.length : Int) - 1))).f0) + a1), (rd_T34 l0 (wrap64 ((l0.length : Int) - 1))).f1⟩ : S34))) else ((attrs_Copy.f l2).bind fun t131 => (if l0.length < 4398046511104 then (some (l0 ++ [(⟨a1, t131⟩ : S34)])) else (none))))) else (none)) else (none)) else ((attrs_Copy.f l2).bind fun t137 => (if l0.length < 4398046511104 then (some (l0 ++ [(⟨a1, t137⟩ : S34)])) else (none)))))
set_option maxHeartbeats 8000000 in
set_option maxRecDepth 100000 in
theorem blocks_add.keeps (k : Nat) (A0 : Option Addr) (c0 : Nat) (l0 : List (S34)) (a1 : Int) (A2 : Option Addr) (c2 : Nat) (l2 : List (S46)) (r : List (S34)) (w wx wz : World) (hK : KeptOut (Value.slice A0 l0.length c0).ownBlock wz wx) (hO : Kd.S k34 34 wx w.heap.size (fun _ => True) (.slice A0 l0.length c0) l0) (hB : Below w.heap.size w wx) (hr2 : Kd.C k46 w A2 l2.length l2) (hc2 : l2.length ≤ c2) (h : blocks_add.f k l0 a1 l2 = some r) :
    Calls Try.prog 24 #[.slice A0 l0.length c0, .int .i64 a1, .slice A2 l2.length c2] wx fun e w' => ∃ v0_ : Value, e = .returned (v0_) ∧ Kd.S k34 34 w' w.heap.size (fun _ => True) v0_ r ∧ Below w.heap.size w w' ∧ KeptOut (Value.slice A0 l0.length c0).ownBlock wz w' ∧ (v0_.ownBlock = (Value.slice A0 l0.length c0).ownBlock ∨ ∃ b, v0_.ownBlock = some b ∧ wz.heap.size ≤ b) := by
  have hu34 := Try.underlying34
  have HR2 := Aside0.mk hr2
  have HC2 := Aside0.mk hc2
  clear hr2 hc2
  have HB := Aside0.mk hB
  have HK := Aside0.mk hK
  clear hK
  have HO126 := Aside0.mk hO
  clear hB hO
  have H : (if a1 ≤ 0 then (some l0) else (if (wrap64 ((l0.length : Int) - 1)) ≥ 0 then (if 0 ≤ (wrap64 ((l0.length : Int) - 1)) then (if (wrap64 ((l0.length : Int) - 1)) < (l0.length : Int) then ((attrs_Same.f k ((rd_T34 l0 (wrap64 ((l0.length : Int) - 1))).f1) l2).bind fun t128 => (if t128 = true then (some (l0.set ((wrap64 ((l0.length : Int) - 1)) : Int).toNat (⟨wrap64 (((rd_T34 l0 (wrap64 ((l0.length : Int) - 1))).f0) + a1), (rd_T34 l0 (wrap64 ((l0.length : Int) - 1))).f1⟩ : S34))) else ((attrs_Copy.f l2).bind fun t131 => (if l0.length < 4398046511104 then (some (l0 ++ [(⟨a1, t131⟩ : S34)])) else (none))))) else (none)) else (none)) else ((attrs_Copy.f l2).bind fun t137 => (if l0.length < 4398046511104 then (some (l0 ++ [(⟨a1, t137⟩ : S34)])) else (none))))) = some r := h
  clear h
  by_cases c5 : a1 ≤ 0
  · rw [if_pos c5] at H
    have c5b0 : decide (a1 ≤ 0) = true := decide_eq_true c5
    clear c5
    obtain rfl := Option.some.inj H
    go_enter Try.func24, Try.ntmps24
    go_wp2
    go_ret
    exact ⟨_, by first | rfl | (simp [errW_none, errW_some] <;> rfl) | (simp [*, errW_none, errW_some] <;> rfl), by (with_reducible repeat (first | apply Kd.S_alloc | apply Kd.S_drewN | apply Kd.S_drew)); exact HO126.out, by repeat (first | (with_reducible first | exact HB.out | apply below_alloc | apply pw_below_drewN | apply below_drew1) | exact HB.out | exact Below.refl _ _), (by repeat (with_reducible first | exact HK.out | apply KeptOut.alloc | apply KeptOut.drewN | apply KeptOut.drew)), by first | exact HAT.out | exact Or.inl rfl⟩
  · rw [if_neg c5] at H
    have c5b0 : decide (a1 ≤ 0) = false := decide_eq_false c5
    clear c5
    by_cases c8 : (wrap64 ((l0.length : Int) - 1)) ≥ 0
    · rw [if_pos c8] at H
      have c8b0 : decide (0 ≤ (wrap64 ((l0.length : Int) - 1))) = true := decide_eq_true c8
      clear c8
      obtain ⟨ji9, hji9⟩ : ∃ j_ : Int, (wrap64 ((l0.length : Int) - 1)) = j_ := ⟨_, rfl⟩
      replace H : (if 0 ≤ (ji9) then (if (ji9) < (l0.length : Int) then ((attrs_Same.f k ((rd_T34 l0 (ji9)).f1) l2).bind fun t128 => (if t128 = true then (some (l0.set ((ji9) : Int).toNat (⟨wrap64 (((rd_T34 l0 (ji9)).f0) + a1), (rd_T34 l0 (ji9)).f1⟩ : S34))) else ((attrs_Copy.f l2).bind fun t131 => (if l0.length < 4398046511104 then (some (l0 ++ [(⟨a1, t131⟩ : S34)])) else (none))))) else (none)) else (none)) = some r := by first | (rw [hji9] at H; exact H) | (simp only [hji9] at H ⊢; exact H)
      (try rw [hji9] at c8b0)
      have hji9w : (IntKind.i64.wrap ((l0.length : Int) - 1)) = ji9 := (i64_w _).trans hji9
      by_cases c10 : 0 ≤ (ji9)
      · rw [if_pos c10] at H
        have c10b0 : decide (0 ≤ (ji9)) = true := decide_eq_true c10
        clear c10
        by_cases c11 : (ji9) < (l0.length : Int)
        · rw [if_pos c11] at H
          have c11b0 : decide ((ji9) < (l0.length : Int)) = true := decide_eq_true c11
          clear c11
          replace H := Option.bind_eq_some_iff.mp H
          obtain ⟨t128, A120, H⟩ := H
          replace H : (if t128 = true then (some (l0.set ((ji9) : Int).toNat (⟨wrap64 (((rd_T34 l0 (ji9)).f0) + a1), (rd_T34 l0 (ji9)).f1⟩ : S34))) else ((attrs_Copy.f l2).bind fun t131 => (if l0.length < 4398046511104 then (some (l0 ++ [(⟨a1, t131⟩ : S34)])) else (none)))) = some r := H
          have A12 := Aside0.mk A120
          clear A120
          by_cases c13 : t128 = true
          · subst c13
            have H1 : (some (l0.set ((ji9) : Int).toNat (⟨wrap64 (((rd_T34 l0 (ji9)).f0) + a1), (rd_T34 l0 (ji9)).f1⟩ : S34))) = some r := by rw [if_pos rfl] at H; exact H
            clear H
            have H := H1
            clear H1
            obtain ⟨y130, hy130⟩ : ∃ y_ : List (S34), y_ = (l0.set ((ji9) : Int).toNat (⟨wrap64 (((rd_T34 l0 (ji9)).f0) + a1), (rd_T34 l0 (ji9)).f1⟩ : S34)) := ⟨_, rfl⟩
            replace H : (some y130) = some r := by first | (rw [hy130]; with_reducible exact H) | (have H2_ := (Option.bind_some _ _).symm.trans H; rw [hy130]; with_reducible exact H2_) | (have H2_ := (Option.bind_some _ _).symm.trans H; with_reducible exact H2_) | with_reducible exact H | (rw [hy130]; exact H) | exact H
            have Ny130 := Aside0.mk hy130
            clear hy130
            obtain rfl := Option.some.inj H
            go_enter Try.func24, Try.ntmps24
            have p127 : 0 ≤ ((ji9) : Int) := of_decide_eq_true (by first | (with_reducible assumption) | assumption)
            have q127 : (ji9) < (l0.length : Int) := of_decide_eq_true (by first | (with_reducible assumption) | assumption)
            obtain ⟨ad127, A127_1, c127_1, e127, hx127_0, hx127_1, hl127_1, hi127_1⟩ := at_T34 (Kd.S_reads' HO126.out).2.2 (ji9) p127 q127
            cases e127
            obtain ⟨ce127, hce127, hMe127, hcc127⟩ := Kd.S_get HO126.out z34 (ji9) p127 (by first | exact q127 | exact of_decide_eq_true (by first | (with_reducible assumption) | assumption) | (have e_ := (Kd.S_reads' HO126.out).1; omega))
            obtain ⟨ve127_1, rfl, ge127_1⟩ := k34_openM hMe127
            have hv127_1 := hcc127 1 _ rfl
            rw [add_field _ _ 1 (by omega)] at hv127_1
            replace hv127_1 := Option.some.inj (hv127_1.symm.trans hx127_1)
            rw [hv127_1] at ge127_1
            have HL127_1 := Aside0.mk (show Kd.R k46 46 _ _ _ _ ((rd_T34 l0 (ji9)).f1) from ge127_1)
            clear hv127_1 ge127_1
            clear hcc127 hce127
            have HR127_1 := Aside0.mk hi127_1
            have HC127_1 := Aside0.mk hl127_1
            clear hi127_1 hl127_1
            replace p127 := eq_true p127
            replace q127 := eq_true q127
            go_wp2_with (first | (go_at_call 28; (with_reducible refine (attrs_Same.calls k _ _ ((rd_T34 l0 (ji9)).f1) _ _ l2 true _ ?side1 ?side2 ?side3 ?side4 A12.out).mono ?_); (case side1 => repeat (first | exact (by repeat (first | (with_reducible exact HR127_1.out) | (with_reducible refine Kd.C_alloc ?_ _) | (with_reducible refine Kd.C_drewN ?_ _) | (with_reducible refine Kd.C_drew ?_) | exact HR127_1.out)) | (with_reducible refine Kd.C_alloc ?_ _) | (with_reducible refine Kd.C_drewN ?_ _) | (with_reducible refine Kd.C_drew ?_))); (case side2 => exact HC127_1.out); (case side3 => repeat (first | exact (Kd.C_below HR2.out HB.out) | (with_reducible refine Kd.C_alloc ?_ _) | (with_reducible refine Kd.C_drewN ?_ _) | (with_reducible refine Kd.C_drew ?_))); (case side4 => exact HC2.out); rintro e w' ⟨rfl, ⟨nd, rfl⟩⟩; (try (rw [drewN_self wx]; generalize hq_ : World.drewN wx _ = wx; have HK := (⟨by rw [← hq_]; exact KeptOut.drewN HK.out _⟩ : Aside0 (KeptOut _ wz wx)); (try replace hx127_0 := (congrArg (fun W_ => World.cell? W_ _) hq_).symm.trans hx127_0); (try replace hx127_1 := (congrArg (fun W_ => World.cell? W_ _) hq_).symm.trans hx127_1); have n0_ : Aside0 (Kd.R k46 46 wx w.heap.size (fun k_ => some k_ ≠ (.slice (some ad127) l0.length c0 : Value).ownBlock) (.slice A127_1 ((rd_T34 l0 (ji9)).f1).length c127_1) ((rd_T34 l0 (ji9)).f1)) := ⟨by rw [← hq_]; exact (by (with_reducible repeat (first | apply Kd.R_alloc | apply Kd.R_drewN | apply Kd.R_drew)); exact Kd.R_mono HL127_1.out (fun _ hk => hk.2))⟩; have n1_ : Aside0 (Kd.S k34 34 wx w.heap.size (fun _ => True) (.slice (some ad127) l0.length c0) l0) := ⟨by rw [← hq_]; exact (by (with_reducible repeat (first | apply Kd.S_alloc | apply Kd.S_drewN | apply Kd.S_drew)); exact HO126.out)⟩; have n2_ : Aside0 (Below w.heap.size w wx) := ⟨by rw [← hq_]; exact (by repeat (first | (with_reducible first | exact HB.out | apply below_alloc | apply pw_below_drewN | apply below_drew1) | exact HB.out | exact Below.refl _ _))⟩; have n3_ : Aside0 (Kd.C k46 wx A127_1 ((rd_T34 l0 (ji9)).f1).length ((rd_T34 l0 (ji9)).f1)) := ⟨by rw [← hq_]; exact (by repeat (first | (with_reducible exact HR127_1.out) | (with_reducible refine Kd.C_alloc ?_ _) | (with_reducible refine Kd.C_drewN ?_ _) | (with_reducible refine Kd.C_drew ?_) | exact HR127_1.out))⟩; clear HL127_1 HO126 HB HR127_1 hq_; have HL127_1 := n0_; have HO126 := n1_; have HB := n2_; have HR127_1 := n3_; clear n0_ n1_ n2_ n3_)); have p129 : 0 ≤ ((ji9) : Int) := of_decide_eq_true (by first | (with_reducible assumption) | assumption); have q129 : (ji9) < (l0.length : Int) := of_decide_eq_true (by first | (with_reducible assumption) | assumption); obtain ⟨ad129, A129_1, c129_1, e129, hx129_0, hx129_1, hl129_1, hi129_1⟩ := at_T34 (Kd.S_reads' HO126.out).2.2 (ji9) p129 q129; obtain rfl : ad127 = ad129 := (by injection e129); obtain ⟨ce129, hce129, hMe129, hcc129⟩ := Kd.S_get HO126.out z34 (ji9) p129 (by first | exact q129 | exact of_decide_eq_true (by first | (with_reducible assumption) | assumption) | (have e_ := (Kd.S_reads' HO126.out).1; omega)); obtain ⟨ve129_1, rfl, ge129_1⟩ := k34_openM hMe129; have hv129_1 := hcc129 1 _ rfl; rw [add_field _ _ 1 (by omega)] at hv129_1; replace hv129_1 := Option.some.inj (hv129_1.symm.trans hx129_1); rw [hv129_1] at ge129_1; have HL129_1 := Aside0.mk (show Kd.R k46 46 _ _ _ _ ((rd_T34 l0 (ji9)).f1) from ge129_1); clear hv129_1 ge129_1; clear hcc129 hce129; have HR129_1 := Aside0.mk hi129_1; have HC129_1 := Aside0.mk hl129_1; clear hi129_1 hl129_1; replace p129 := eq_true p129; replace q129 := eq_true q129; have ea_ := Option.some.inj (hx127_1.symm.trans hx129_1); injection ea_ with ea_ en_ ec_; subst ea_; subst ec_; clear en_; have p14 : 0 ≤ ((ji9) : Int) := of_decide_eq_true (by first | (with_reducible assumption) | assumption); have q14 : ((ji9) : Int) < ((l0.length : Int) : Int) := of_decide_eq_true (by first | (with_reducible assumption) | assumption); obtain ⟨go14, co14, eo14, gb14, gl14, cl14, HG14⟩ := Kd.S_form HO126.out (by omega); (first | cases eo14 | (injection eo14 with ea_ en_ ec_; (first | subst ea_ | (injection ea_ with ea_; subst ea_)); subst ec_; clear en_)); have GB14 := Aside0.mk gb14; have GG14 := Aside0.mk HG14; clear gb14 gl14 HG14; (first | simp only [add_plain] at hx127_0 | skip); (first | simp only [add_plain] at hx127_1 | skip); (first | simp only [add_plain] at hx129_0 | skip); (first | simp only [add_plain] at hx129_1 | skip); obtain ⟨_, ce14, hcl14, hM14, hcc14, hfr14, _, _⟩ := Kd.S_elem HO126.out z34 ((ji9) : Int) p14 q14; obtain ⟨ve14_1, rfl, ge14_1⟩ := k34_openM hM14; have hx14_0 : wx.cell? ⟨go14, ((ji9) : Int).toNat * 2, none⟩ = some (.int .i64 ((rd_T34 l0 (ji9)).f0)) := hcc14 0 _ rfl; have hx14_1 : wx.cell? ⟨go14, ((ji9) : Int).toNat * 2 + 1, none⟩ = some (ve14_1) := hcc14 1 _ rfl; have hf14_0 : wx.frozen? ⟨go14, ((ji9) : Int).toNat * 2, none⟩ = false := hfr14 0; have hf14_1 : wx.frozen? ⟨go14, ((ji9) : Int).toNat * 2 + 1, none⟩ = false := hfr14 1; clear hcl14 hcc14 hfr14 hM14; replace p14 := eq_true p14; replace q14 := eq_true q14; have HX17 := Aside0.mk (show Kd.S k34 34 wx w.heap.size (fun k_ => ((fun _ => True)) k_ ∧ ¬ ((fun _ => False)) k_) (.slice (some ⟨go14, 0, none⟩) l0.length c0) l0 from (by (with_reducible repeat (first | apply Kd.S_alloc | apply Kd.S_drewN | apply Kd.S_drew)); exact Kd.S_mono HO126.out (fun k_ hk => ⟨trivial, fun e_ => e_⟩))); obtain ⟨oki17, ce17, hcl17, hM17, hcc17, hfr17, hoki17, hH17⟩ := Kd.S_elem HX17.out z34 ((ji9) : Int) (of_decide_eq_true (by first | (with_reducible assumption) | assumption)) (by have h_ : ((ji9) : Int) < ((l0.length : Int) : Int) := of_decide_eq_true (by first | (with_reducible assumption) | assumption); first | exact h_ | (have e_ := (Kd.S_reads' HO126.out).1; omega) | simpa using h_); obtain ⟨ve17_1, rfl, ge17_1⟩ := k34_openM hM17; have HP17 := Kd.S_seg hH17 (of_decide_eq_true (by first | (with_reducible assumption) | assumption)) (by have h_ : ((ji9) : Int) < ((l0.length : Int) : Int) := of_decide_eq_true (by first | (with_reducible assumption) | assumption); first | exact h_ | (have e_ := (Kd.S_reads' HO126.out).1; omega) | simpa using h_) (seg := [.int .i64 (wrap64 (((rd_T34 l0 (ji9)).f0) + a1))]) (j := 0) (show 1 ≤ 2 from by decide) (x' := (⟨wrap64 (((rd_T34 l0 (ji9)).f0) + a1), (rd_T34 l0 (ji9)).f1⟩ : S34)) (k34_mkM _ _ _ (⟨wrap64 (((rd_T34 l0 (ji9)).f0) + a1), (rd_T34 l0 (ji9)).f1⟩ : S34) (Kd.R_mono ge17_1 (fun _ h_ => Or.inl h_))) (fun _ hk => hk) (fun k_ hk_ => hk_.elim); have hx17_0 := hcc17 0 _ rfl; (try simp only [show (k34).sz = 2 from rfl, Nat.mul_one, Nat.add_zero] at hx17_0); have hf17_0 := hfr17 0; (try simp only [show (k34).sz = 2 from rfl, Nat.mul_one, Nat.add_zero] at hf17_0); clear hcl17 hcc17 hfr17 hM17 hoki17 hH17) | ((with_reducible refine gate_store (t := 3) (p := 35) rfl ?_); refine store_event (t := 3) (p := 35) (v := ?vo_w18) (w1 := (wx.setCell ⟨go14, ((ji9) : Int).toNat * 2, none⟩ (.int .i64 (wrap64 (((rd_T34 l0 (ji9)).f0) + a1))))) ?hg ?ho ?hn ?hr ?_; (case ho => rfl); (case hg => rfl); (case hn => rfl); (case hr => first | (go_simp; done) | (go_simp; rfl)); intro w18 hw; have hg : wx.grownBy w18 (some go14) := (by rw [hw]; exact HP17.2); have hp_ : Kd.S k34 34 w18 w.heap.size (fun _ => True) (.slice (some ⟨go14, 0, none⟩) l0.length c0) y130 := (by rw [hw, Ny130.out]; exact HP17.1); clear HP17; have HK := Aside0.mk (KeptOut.grown (own := (Value.slice (some ⟨go14, 0, none⟩) l0.length c0).ownBlock) (by repeat (with_reducible first | exact HK.out | apply KeptOut.alloc | apply KeptOut.drewN | apply KeptOut.drew)) (by simpa [Value.ownBlock] using hg)); have n0_ := Aside0.mk (hp_); have n1_ := Aside0.mk (Kd.R_after (v := (.slice (some ⟨go14, 0, none⟩) l0.length c0)) (v1 := (.slice (some ⟨go14, 0, none⟩) l0.length c0)) (ok := (fun _ => True)) (by (with_reducible repeat (first | apply Kd.R_alloc | apply Kd.R_drewN | apply Kd.R_drew)); exact (Kd.R_mono HL127_1.out (fun _ hk => ⟨trivial, by first | exact hk | exact hk.2⟩))) hg (.inl rfl)); have n2_ := Aside0.mk (Kd.R_after (v := (.slice (some ⟨go14, 0, none⟩) l0.length c0)) (v1 := (.slice (some ⟨go14, 0, none⟩) l0.length c0)) (ok := (fun _ => True)) (by (with_reducible repeat (first | apply Kd.R_alloc | apply Kd.R_drewN | apply Kd.R_drew)); exact (Kd.R_mono HL129_1.out (fun _ hk => ⟨trivial, by first | exact hk | exact hk.2⟩))) hg (.inl rfl)); have n3_ := Aside0.mk ((by rw [hw]; exact below_set (HB.out) GB14.out : Below w.heap.size w w18)); clear HO126; clear HL127_1; clear HL129_1; clear HB; have HO126 := n0_; have HL127_1 := n1_; have HL129_1 := n2_; have HB := n3_; clear n0_ n1_ n2_ n3_; clear hg hw hp_))
            go_ret
            exact ⟨_, by first | rfl | (simp [errW_none, errW_some] <;> rfl) | (simp only [← hji9]; first | rfl | (simp [errW_none, errW_some] <;> rfl)) | (simp [*, errW_none, errW_some] <;> rfl), by (with_reducible repeat (first | apply Kd.S_alloc | apply Kd.S_drewN | apply Kd.S_drew)); exact HO126.out, by repeat (first | (with_reducible first | exact HB.out | apply below_alloc | apply pw_below_drewN | apply below_drew1) | exact HB.out | exact Below.refl _ _), (by repeat (with_reducible first | exact HK.out | apply KeptOut.alloc | apply KeptOut.drewN | apply KeptOut.drew)), by first | exact HAT.out | exact Or.inl rfl⟩
          · replace c13 := Bool.eq_false_iff.mpr c13
            subst c13
            have H1 : ((attrs_Copy.f l2).bind fun t131 => (if l0.length < 4398046511104 then (some (l0 ++ [(⟨a1, t131⟩ : S34)])) else (none))) = some r := by rw [if_neg (show ¬ (false = true) by decide)] at H; exact H
            clear H
            have H := H1
            clear H1
            replace H := Option.bind_eq_some_iff.mp H
            obtain ⟨t131, A190, H⟩ := H
            replace H : (if l0.length < 4398046511104 then (some (l0 ++ [(⟨a1, t131⟩ : S34)])) else (none)) = some r := H
            have A19 := Aside0.mk A190
            clear A190
            by_cases c20 : l0.length < 4398046511104
            · rw [if_pos c20] at H
              have LMc20 := Aside0.mk c20
              clear c20
              obtain ⟨y134, hy134⟩ : ∃ y_ : List (S34), y_ = (l0 ++ [(⟨a1, t131⟩ : S34)]) := ⟨_, rfl⟩
              replace H : (some y134) = some r := by first | (rw [hy134]; with_reducible exact H) | (have H2_ := (Option.bind_some _ _).symm.trans H; rw [hy134]; with_reducible exact H2_) | (have H2_ := (Option.bind_some _ _).symm.trans H; with_reducible exact H2_) | with_reducible exact H | (rw [hy134]; exact H) | exact H
              have Ny134 := Aside0.mk hy134
              clear hy134
              obtain rfl := Option.some.inj H
              go_enter Try.func24, Try.ntmps24
              have p127 : 0 ≤ ((ji9) : Int) := of_decide_eq_true (by first | (with_reducible assumption) | assumption)
              have q127 : (ji9) < (l0.length : Int) := of_decide_eq_true (by first | (with_reducible assumption) | assumption)
              obtain ⟨ad127, A127_1, c127_1, e127, hx127_0, hx127_1, hl127_1, hi127_1⟩ := at_T34 (Kd.S_reads' HO126.out).2.2 (ji9) p127 q127
              cases e127
              obtain ⟨ce127, hce127, hMe127, hcc127⟩ := Kd.S_get HO126.out z34 (ji9) p127 (by first | exact q127 | exact of_decide_eq_true (by first | (with_reducible assumption) | assumption) | (have e_ := (Kd.S_reads' HO126.out).1; omega))
              obtain ⟨ve127_1, rfl, ge127_1⟩ := k34_openM hMe127
              have hv127_1 := hcc127 1 _ rfl
              rw [add_field _ _ 1 (by omega)] at hv127_1
              replace hv127_1 := Option.some.inj (hv127_1.symm.trans hx127_1)
              rw [hv127_1] at ge127_1
              have HL127_1 := Aside0.mk (show Kd.R k46 46 _ _ _ _ ((rd_T34 l0 (ji9)).f1) from ge127_1)
              clear hv127_1 ge127_1
              clear hcc127 hce127
              have HR127_1 := Aside0.mk hi127_1
              have HC127_1 := Aside0.mk hl127_1
              clear hi127_1 hl127_1
              replace p127 := eq_true p127
              replace q127 := eq_true q127
              go_wp2_with (first | (go_at_call 28; (with_reducible refine (attrs_Same.calls k _ _ ((rd_T34 l0 (ji9)).f1) _ _ l2 false _ ?side1 ?side2 ?side3 ?side4 A12.out).mono ?_); (case side1 => repeat (first | exact (by repeat (first | (with_reducible exact HR127_1.out) | (with_reducible refine Kd.C_alloc ?_ _) | (with_reducible refine Kd.C_drewN ?_ _) | (with_reducible refine Kd.C_drew ?_) | exact HR127_1.out)) | (with_reducible refine Kd.C_alloc ?_ _) | (with_reducible refine Kd.C_drewN ?_ _) | (with_reducible refine Kd.C_drew ?_))); (case side2 => exact HC127_1.out); (case side3 => repeat (first | exact (Kd.C_below HR2.out HB.out) | (with_reducible refine Kd.C_alloc ?_ _) | (with_reducible refine Kd.C_drewN ?_ _) | (with_reducible refine Kd.C_drew ?_))); (case side4 => exact HC2.out); rintro e w' ⟨rfl, ⟨nd, rfl⟩⟩) | ((with_reducible refine gate_callee (f := 29) rfl ?_); refine goesL_ (some 40) rfl rfl Try.func29 (by kernel_rfl) rfl #[.slice A2 l2.length c2] rfl (by (try simp only [List.map_toArray, List.map_cons, List.map_nil]); first | done | rfl | (simp only [List.length_drop, List.length_take]; rfl)) ?_; (with_reducible refine (attrs_Copy.calls _ _ l2 t131 _ ?side1 ?side2 A19.out).mono ?_); (case side1 => repeat (first | exact (Kd.C_below HR2.out (by repeat (first | (with_reducible first | exact HB.out | apply below_alloc | apply pw_below_drewN | apply below_drew1) | exact HB.out | exact Below.refl _ _))) | (with_reducible refine Kd.C_alloc ?_ _) | (with_reducible refine Kd.C_drewN ?_ _) | (with_reducible refine Kd.C_drew ?_))); (case side2 => exact HC2.out); rintro e w23 ⟨v132, rfl, ho0, hb⟩; refine ⟨_, rfl, ?_⟩; have HK := Aside0.mk (KeptOut.below (by repeat (with_reducible first | exact HK.out | apply KeptOut.alloc | apply KeptOut.drewN | apply KeptOut.drew)) hb); have n0_ := Aside0.mk (Kd.S_elder' (by (with_reducible repeat (first | apply Kd.S_alloc | apply Kd.S_drewN | apply Kd.S_drew)); exact HO126.out) (Kd.R_base ho0) hb); have n1_ := Aside0.mk (Kd.R_elder' (by (with_reducible repeat (first | apply Kd.R_alloc | apply Kd.R_drewN | apply Kd.R_drew)); exact HL127_1.out) (Kd.R_base ho0) hb); have n2_ := Aside0.mk (Kd.R_lower (Kd.R_new' ho0 (Kd.R_lt (by (with_reducible repeat (first | apply Kd.R_alloc | apply Kd.R_drewN | apply Kd.R_drew)); exact HL127_1.out))) (below_size (by repeat (first | (with_reducible first | exact HB.out | apply below_alloc | apply pw_below_drewN | apply below_drew1) | exact HB.out | exact Below.refl _ _)))); have n3_ := Aside0.mk (Kd.C_below (by repeat (first | (with_reducible exact HR127_1.out) | (with_reducible refine Kd.C_alloc ?_ _) | (with_reducible refine Kd.C_drewN ?_ _) | (with_reducible refine Kd.C_drew ?_) | exact HR127_1.out)) hb); have n4_ := Aside0.mk (below_step (by repeat (first | (with_reducible first | exact HB.out | apply below_alloc | apply pw_below_drewN | apply below_drew1) | exact HB.out | exact Below.refl _ _)) hb); clear HO126; clear HL127_1; clear HR127_1; clear HB; have HO126 := n0_; have HL127_1 := n1_; have HO133 := n2_; have HR127_1 := n3_; have HB := n4_; clear n0_ n1_ n2_ n3_ n4_; (try clear hb); (try clear hb2); (try clear hk); (try clear hi); (try clear ho0); obtain ⟨Ao24, co24, eo24⟩ := Kd.R_slice HO133.out; subst eo24) | ((with_reducible refine gate_builtin (b := .append) (xs := #[.tmp 37, .tmp 42]) rfl ?_); at_builtin; refine Kd.S_append k34 (w0 := w) w.heap.size rfl (.tmp 37) (.tmp 42) 27 34 (.agg #[(.int .i64 0), (.slice none 0 0)]) 32 rfl Try.underlying27 info34 rfl (by decide) (by omega) (.slice (some ad127) l0.length c0) l0 (⟨a1, t131⟩ : S34) [.int .i64 a1, .slice Ao24 t131.length co24] (fun _ => True) (fun k_ => some k_ = (.slice Ao24 t131.length co24 : Value).ownBlock) rfl rfl ?aP (fun k_ hk_ => ((Kd.R_mono (ok' := fun k_ => ((fun _ => True)) k_ ∧ some k_ ≠ (.slice (some ad127) l0.length c0 : Value).ownBlock) (Kd.R_apart' (HO133.out) (Kd.S_typed HO126.out) (by decide)) (fun k_ hk => ⟨trivial, hk.2⟩))).1 k_ hk_.symm) ?aF ?aO ?aB ?aS ?aL ?_; (case aP => exact k34_mkM _ _ _ (⟨a1, t131⟩ : S34) (Kd.R_mono (Kd.R_tight rfl (Kd.R_mono (ok' := fun k_ => ((fun _ => True)) k_ ∧ some k_ ≠ (.slice (some ad127) l0.length c0 : Value).ownBlock) (Kd.R_apart' (HO133.out) (Kd.S_typed HO126.out) (by decide)) (fun k_ hk => ⟨trivial, hk.2⟩))) (fun _ h_ => h_))); (case aB => exact (by repeat (first | (with_reducible first | exact HB.out | apply below_alloc | apply pw_below_drewN | apply below_drew1) | exact HB.out | exact Below.refl _ _))); (case aF => exact (fun _ _ => trivial)); (case aO => exact (by (with_reducible repeat (first | apply Kd.S_alloc | apply Kd.S_drewN | apply Kd.S_drew)); exact Kd.S_mono HO126.out (fun k_ hk => ⟨trivial, fun e_ => hk.2 e_⟩))); (case aS => exact (below_size (by repeat (first | (with_reducible first | exact HB.out | apply below_alloc | apply pw_below_drewN | apply below_drew1) | exact HB.out | exact Below.refl _ _)))); (case aL => have := LMc20.out; omega); intro v135 w25 ho hb hg hat; rw [← Ny134.out] at ho; have n0_ := Aside0.mk (Kd.R_after (ok := (fun k_ => some k_ ≠ (.slice Ao24 t131.length co24 : Value).ownBlock)) (by (with_reducible repeat (first | apply Kd.R_alloc | apply Kd.R_drewN | apply Kd.R_drew)); exact Kd.R_mono HL127_1.out (fun _ hk => ⟨hk.2, hk.1.2⟩)) hg hat); have n1_ := Aside0.mk (hb); have n2_ := Aside0.mk (ho); clear HL127_1; clear HB; clear HO126; clear HO133; have HL127_1 := n0_; have HB := n1_; have HO136 := n2_; clear n0_ n1_ n2_; have HAT := Aside0.mk (KeptOut.at_ (by repeat (with_reducible first | exact HK.out | apply KeptOut.alloc | apply KeptOut.drewN | apply KeptOut.drew)) hat); have HK := Aside0.mk (KeptOut.grown (by repeat (with_reducible first | exact HK.out | apply KeptOut.alloc | apply KeptOut.drewN | apply KeptOut.drew)) hg); clear ho hb hg hat))
              go_ret
              exact ⟨_, by first | rfl | (simp [errW_none, errW_some] <;> rfl) | (simp only [← hji9]; first | rfl | (simp [errW_none, errW_some] <;> rfl)) | (simp [*, errW_none, errW_some] <;> rfl), by (with_reducible repeat (first | apply Kd.S_alloc | apply Kd.S_drewN | apply Kd.S_drew)); exact HO136.out, by repeat (first | (with_reducible first | exact HB.out | apply below_alloc | apply pw_below_drewN | apply below_drew1) | exact HB.out | exact Below.refl _ _), (by repeat (with_reducible first | exact HK.out | apply KeptOut.alloc | apply KeptOut.drewN | apply KeptOut.drew)), by first | exact HAT.out | exact Or.inl rfl⟩
            · rw [if_neg c20] at H
              exact absurd H (by simp)
        · rw [if_neg c11] at H
          exact absurd H (by simp)
      · rw [if_neg c10] at H
        exact absurd H (by simp)
    · rw [if_neg c8] at H
      have c8b0 : decide (0 ≤ (wrap64 ((l0.length : Int) - 1))) = false := decide_eq_false c8
      clear c8
      replace H := Option.bind_eq_some_iff.mp H
      obtain ⟨t137, A260, H⟩ := H
      replace H : (if l0.length < 4398046511104 then (some (l0 ++ [(⟨a1, t137⟩ : S34)])) else (none)) = some r := H
      have A26 := Aside0.mk A260
      clear A260
      by_cases c27 : l0.length < 4398046511104
      · rw [if_pos c27] at H
        have LMc27 := Aside0.mk c27
        clear c27
        obtain ⟨y140, hy140⟩ : ∃ y_ : List (S34), y_ = (l0 ++ [(⟨a1, t137⟩ : S34)]) := ⟨_, rfl⟩
        replace H : (some y140) = some r := by first | (rw [hy140]; with_reducible exact H) | (have H2_ := (Option.bind_some _ _).symm.trans H; rw [hy140]; with_reducible exact H2_) | (have H2_ := (Option.bind_some _ _).symm.trans H; with_reducible exact H2_) | with_reducible exact H | (rw [hy140]; exact H) | exact H
        have Ny140 := Aside0.mk hy140
        clear hy140
        obtain rfl := Option.some.inj H
        go_enter Try.func24, Try.ntmps24
        go_wp2_with (first | ((with_reducible refine gate_callee (f := 29) rfl ?_); refine goesL_ (some 40) rfl rfl Try.func29 (by kernel_rfl) rfl #[.slice A2 l2.length c2] rfl (by (try simp only [List.map_toArray, List.map_cons, List.map_nil]); first | done | rfl | (simp only [List.length_drop, List.length_take]; rfl)) ?_; (with_reducible refine (attrs_Copy.calls _ _ l2 t137 _ ?side1 ?side2 A26.out).mono ?_); (case side1 => repeat (first | exact (Kd.C_below HR2.out HB.out) | (with_reducible refine Kd.C_alloc ?_ _) | (with_reducible refine Kd.C_drewN ?_ _) | (with_reducible refine Kd.C_drew ?_))); (case side2 => exact HC2.out); rintro e w30 ⟨v138, rfl, ho0, hb⟩; refine ⟨_, rfl, ?_⟩; have HK := Aside0.mk (KeptOut.below (by repeat (with_reducible first | exact HK.out | apply KeptOut.alloc | apply KeptOut.drewN | apply KeptOut.drew)) hb); have n0_ := Aside0.mk (Kd.S_elder' (by (with_reducible repeat (first | apply Kd.S_alloc | apply Kd.S_drewN | apply Kd.S_drew)); exact HO126.out) (Kd.R_base ho0) hb); have n1_ := Aside0.mk (Kd.R_lower ho0 (below_size (by repeat (first | (with_reducible first | exact HB.out | apply below_alloc | apply pw_below_drewN | apply below_drew1) | exact HB.out | exact Below.refl _ _)))); have n2_ := Aside0.mk (below_step (by repeat (first | (with_reducible first | exact HB.out | apply below_alloc | apply pw_below_drewN | apply below_drew1) | exact HB.out | exact Below.refl _ _)) hb); clear HO126; clear HB; have HO126 := n0_; have HO139 := n1_; have HB := n2_; clear n0_ n1_ n2_; (try clear hb); (try clear hb2); (try clear hk); (try clear hi); (try clear ho0); obtain ⟨Ao31, co31, eo31⟩ := Kd.R_slice HO139.out; subst eo31) | ((with_reducible refine gate_builtin (b := .append) (xs := #[.tmp 37, .tmp 42]) rfl ?_); at_builtin; refine Kd.S_append k34 (w0 := w) w.heap.size rfl (.tmp 37) (.tmp 42) 27 34 (.agg #[(.int .i64 0), (.slice none 0 0)]) 32 rfl Try.underlying27 info34 rfl (by decide) (by omega) (.slice A0 l0.length c0) l0 (⟨a1, t137⟩ : S34) [.int .i64 a1, .slice Ao31 t137.length co31] (fun _ => True) (fun k_ => some k_ = (.slice Ao31 t137.length co31 : Value).ownBlock) rfl rfl ?aP (fun k_ hk_ => ((Kd.R_mono (ok' := fun k_ => ((fun _ => True)) k_ ∧ some k_ ≠ (.slice A0 l0.length c0 : Value).ownBlock) (Kd.R_apart' (HO139.out) (Kd.S_typed HO126.out) (by decide)) (fun k_ hk => ⟨trivial, hk.2⟩))).1 k_ hk_.symm) ?aF ?aO ?aB ?aS ?aL ?_; (case aP => exact k34_mkM _ _ _ (⟨a1, t137⟩ : S34) (Kd.R_mono (Kd.R_tight rfl (Kd.R_mono (ok' := fun k_ => ((fun _ => True)) k_ ∧ some k_ ≠ (.slice A0 l0.length c0 : Value).ownBlock) (Kd.R_apart' (HO139.out) (Kd.S_typed HO126.out) (by decide)) (fun k_ hk => ⟨trivial, hk.2⟩))) (fun _ h_ => h_))); (case aB => exact (by repeat (first | (with_reducible first | exact HB.out | apply below_alloc | apply pw_below_drewN | apply below_drew1) | exact HB.out | exact Below.refl _ _))); (case aF => exact (fun _ _ => trivial)); (case aO => exact (by (with_reducible repeat (first | apply Kd.S_alloc | apply Kd.S_drewN | apply Kd.S_drew)); exact Kd.S_mono HO126.out (fun k_ hk => ⟨trivial, fun e_ => hk.2 e_⟩))); (case aS => exact (below_size (by repeat (first | (with_reducible first | exact HB.out | apply below_alloc | apply pw_below_drewN | apply below_drew1) | exact HB.out | exact Below.refl _ _)))); (case aL => have := LMc27.out; omega); intro v141 w32 ho hb hg hat; rw [← Ny140.out] at ho; have n0_ := Aside0.mk (hb); have n1_ := Aside0.mk (ho); clear HB; clear HO126; clear HO139; have HB := n0_; have HO142 := n1_; clear n0_ n1_; have HAT := Aside0.mk (KeptOut.at_ (by repeat (with_reducible first | exact HK.out | apply KeptOut.alloc | apply KeptOut.drewN | apply KeptOut.drew)) hat); have HK := Aside0.mk (KeptOut.grown (by repeat (with_reducible first | exact HK.out | apply KeptOut.alloc | apply KeptOut.drewN | apply KeptOut.drew)) hg); clear ho hb hg hat))
        go_ret
        exact ⟨_, by first | rfl | (simp [errW_none, errW_some] <;> rfl) | (simp [*, errW_none, errW_some] <;> rfl), by (with_reducible repeat (first | apply Kd.S_alloc | apply Kd.S_drewN | apply Kd.S_drew)); exact HO142.out, by repeat (first | (with_reducible first | exact HB.out | apply below_alloc | apply pw_below_drewN | apply below_drew1) | exact HB.out | exact Below.refl _ _), (by repeat (with_reducible first | exact HK.out | apply KeptOut.alloc | apply KeptOut.drewN | apply KeptOut.drew)), by first | exact HAT.out | exact Or.inl rfl⟩
      · rw [if_neg c27] at H
        exact absurd H (by simp)
theorem blocks_add.calls (k : Nat) (A0 : Option Addr) (c0 : Nat) (l0 : List (S34)) (a1 : Int) (A2 : Option Addr) (c2 : Nat) (l2 : List (S46)) (r : List (S34)) (w wx : World) (hO : Kd.S k34 34 wx w.heap.size (fun _ => True) (.slice A0 l0.length c0) l0) (hB : Below w.heap.size w wx) (hr2 : Kd.C k46 w A2 l2.length l2) (hc2 : l2.length ≤ c2) (h : blocks_add.f k l0 a1 l2 = some r) :
    Calls Try.prog 24 #[.slice A0 l0.length c0, .int .i64 a1, .slice A2 l2.length c2] wx fun e w' => ∃ v0_ : Value, e = .returned (v0_) ∧ Kd.S k34 34 w' w.heap.size (fun _ => True) v0_ r ∧ Below w.heap.size w w' :=
  (blocks_add.keeps k A0 c0 l0 a1 A2 c2 l2 r w wx wx (KeptOut.refl _ _) hO hB hr2 hc2 h).mono (fun e w' ⟨v, h1, h2, h3, _⟩ => ⟨v, h1, h2, h3⟩)
/-! ### blocks_Of: function 9 -/
def blocks_Of.l0 : Nat → List (S34) → List (S26) → Int → Int → Option ((List (S34)))
  | 0, _, _, _, _ => none
  | k + 1, x3, x7, x8, x9 => if x9 < x8 then (if 0 ≤ x9 then (if x9 < (x7.length : Int) then (if ((rd_T26 x7 x9).f0) = 10 then ((blocks_add.f k x3 1 ([] : List (S46))).bind fun t145 => (blocks_Of.l0 k t145 x7 x8 (wrap64 (x9 + 1)))) else ((blocks_add.f k x3 1 ((rd_T26 x7 x9).f1)).bind fun t148 => (blocks_Of.l0 k t148 x7 x8 (wrap64 (x9 + 1))))) else (none)) else (none)) else (some x3)
def blocks_Of.f (k : Nat) (l0 : List (S26)) : Option ((List (S34))) := blocks_Of.l0 k ([] : List (S34)) l0 (l0.length : Int) 0
set_option maxHeartbeats 8000000 in
set_option maxRecDepth 100000 in
theorem blocks_Of.calls (k : Nat) (A0 : Option Addr) (c0 : Nat) (l0 : List (S26)) (r : List (S34)) (w : World) (hr0 : Kd.C k26 w A0 l0.length l0) (hc0 : l0.length ≤ c0) (h : blocks_Of.f k l0 = some r) :
    Calls Try.prog 9 #[.slice A0 l0.length c0] w fun e w' => ∃ v0_ : Value, e = .returned (v0_) ∧ Kd.S k34 34 w' w.heap.size (fun _ => True) v0_ r ∧ Below w.heap.size w w' := by
  have hu26 := Try.underlying26
  have HR0 := Aside0.mk hr0
  have HC0 := Aside0.mk hc0
  clear hr0 hc0
  have HB := Aside0.mk (Below.refl w.heap.size w)
  have H : (blocks_Of.l0 k ([] : List (S34)) l0 (l0.length : Int) 0) = some r := h
  clear h
  have H' := Aside0.mk H
  clear H
  go_enter Try.func9, Try.ntmps9
  go_wp2
  go_loopg [3, 9] k (fun kq v3 v9 w' => ∃ (x3_1 : List (S34)) (x9_1 : Int), v9 = .int .i64 x9_1 ∧ Aside0 (blocks_Of.l0 kq x3_1 l0 (l0.length : Int) x9_1 = some r) ∧ Aside0 (kq ≤ k) ∧ Aside0 (Kd.S k34 34 w' w.heap.size (fun _ => True) v3 x3_1) ∧ Aside0 (Below w.heap.size w w'))
  case atStart => exact ⟨(([] : List (S34))), (0), (by first | rfl | (simp; done) | (simp [*]; done)), H', ⟨Nat.le_refl _⟩, ⟨by first | exact Kd.S_nil _ _ _ _ _ | exact Kd.N_nil _ _ _ _ _ | exact Kd.V_nil _ _ _ _ _ | exact Kd.Q_nil _ _ _ _ _ | exact Kd.R_nil _ _ _ _ _⟩, ⟨by repeat (first | (with_reducible first | exact HB.out | apply below_alloc | apply pw_below_drewN | apply below_drew1) | exact HB.out | exact Below.refl _ _)⟩⟩
  case round =>
    clear H'
    obtain ⟨x3_1, x9_1, rfl, HA, HK1, HO_3, HB⟩ := hrel
    cases gk with
    | zero => exact absurd HA.out (by simp [blocks_Of.l0])
    | succ k1 =>
      have H := HA.out
      clear HA
      simp only [blocks_Of.l0] at H
      by_cases c2 : x9_1 < (l0.length : Int)
      · rw [if_pos c2] at H
        have c2b0 : decide (x9_1 < (l0.length : Int)) = true := decide_eq_true c2
        clear c2
        by_cases c3 : 0 ≤ x9_1
        · rw [if_pos c3] at H
          have c3b0 : decide (0 ≤ x9_1) = true := decide_eq_true c3
          clear c3
          by_cases c4 : x9_1 < (l0.length : Int)
          · rw [if_pos c4] at H
            have c4b0 : decide (x9_1 < (l0.length : Int)) = true := decide_eq_true c4
            clear c4
            by_cases c5 : ((rd_T26 l0 x9_1).f0) = 10
            · rw [if_pos c5] at H
              have c5b0 : (((rd_T26 l0 x9_1).f0) == 10) = true := beq_iff_eq.mpr c5
              have c5b1 : (((rd_T26 l0 x9_1).f0) != 10) = false := bne_eq_false_iff_eq.mpr c5
              clear c5
              replace H := Option.bind_eq_some_iff.mp H
              obtain ⟨t145, A60, H⟩ := H
              replace H : (blocks_Of.l0 k1 t145 l0 (l0.length : Int) (wrap64 (x9_1 + 1))) = some r := H
              have A6 := Aside0.mk A60
              clear A60
              have H' := Aside0.mk H
              clear H
              have p143 : 0 ≤ (x9_1 : Int) := of_decide_eq_true (by first | (with_reducible assumption) | assumption)
              have q143 : x9_1 < (l0.length : Int) := of_decide_eq_true (by first | (with_reducible assumption) | assumption)
              obtain ⟨ad143, A143_1, c143_1, e143, hx143_0, hx143_1, hl143_1, hi143_1⟩ := at_T26 HR0.out x9_1 p143 q143
              cases e143
              replace hx143_0 := (HB.out.cell (World.block_lt_of_cell? w _ hx143_0)).trans hx143_0
              replace hx143_1 := (HB.out.cell (World.block_lt_of_cell? w _ hx143_1)).trans hx143_1
              have HR143_1 := Aside0.mk hi143_1
              have HC143_1 := Aside0.mk hl143_1
              clear hi143_1 hl143_1
              replace p143 := eq_true p143
              replace q143 := eq_true q143
              go_wp2_with (first | ((with_reducible refine gate_dst (N := 5) rfl ?_); refine box_event ?hg (N := 5) ?hd (cs := #[.int .i32 0, .slice none 0 0]) (t := 26) ?hr ?_; (case hd => rfl); (case hg => rfl); (case hr => first | (go_simp; done) | (go_simp; rfl)); intro gb144 hg w7 hbox hb; have n0_ := Aside0.mk (Kd.S_below (by (with_reducible repeat (first | apply Kd.S_alloc | apply Kd.S_drewN | apply Kd.S_drew)); exact HO_3.out) hb); have n1_ := Aside0.mk (below_step (by repeat (first | (with_reducible first | exact HB.out | apply below_alloc | apply pw_below_drewN | apply below_drew1) | exact HB.out | exact Below.refl _ _)) hb); have n2_ := Aside0.mk (hbox); have n3_ := Aside0.mk ((by rw [hg]; exact (below_size (by repeat (first | (with_reducible first | exact HB.out | apply below_alloc | apply pw_below_drewN | apply below_drew1) | exact HB.out | exact Below.refl _ _))) : w.heap.size ≤ gb144)); have n4_ := Aside0.mk ((by rw [hg]; exact (below_size (by repeat (first | (with_reducible first | exact HB.out | apply below_alloc | apply pw_below_drewN | apply below_drew1) | exact HB.out | exact Below.refl _ _))) : w.heap.size ≤ gb144)); clear HO_3; clear HB; have HO_3 := n0_; have HB := n1_; have BK144 := n2_; have GW144 := n3_; have GE144 := n4_; clear n0_ n1_ n2_ n3_ n4_; clear hb hbox hg; have hcz8_0 : w7.cell? ⟨gb144, 0, none⟩ = some (.int .i32 0) := (blk_cell BK144.out 0).trans rfl; have hcz8_1 : w7.cell? ⟨gb144, 1, none⟩ = some (.slice none 0 0) := (blk_cell BK144.out 1).trans rfl; have hfz8_0 := blk_frozen BK144.out 0; have hfz8_1 := blk_frozen BK144.out 1; obtain ⟨Ao9, co9, eo9⟩ := Kd.S_slice HO_3.out; subst eo9) | ((with_reducible refine gate_callee (f := 24) rfl ?_); refine goesL_ (some 20) rfl rfl Try.func24 (by kernel_rfl) rfl #[.slice Ao9 x3_1.length co9, .int .i64 1, .slice none 0 0] rfl (by (try simp only [List.map_toArray, List.map_cons, List.map_nil]); first | done | rfl | (simp only [List.length_drop, List.length_take]; rfl)) ?_; (refine (blocks_add.calls k1 _ _ x3_1 1 _ _ ([] : List (S46)) t145 w _ ?side1 ?side2 ?side3 ?side4 A6.out).mono ?_); (case side1 => refine Kd.S_mono (ok := fun k_ => True) ?_ (fun _ _ => trivial); exact (by (with_reducible repeat (first | apply Kd.S_alloc | apply Kd.S_drewN | apply Kd.S_drew)); exact (Kd.S_mono (Kd.S_far (p := ⟨gb144, 1, none⟩) (Kd.S_far (p := ⟨gb144, 0, none⟩) (Kd.S_types HO_3.out BK144.out (by decide)) (fun _ hk => hk.2) (.int .i32 ((rd_T26 l0 x9_1).f0))) (fun _ hk => hk.2) (.slice A143_1 ((rd_T26 l0 x9_1).f1).length c143_1)) (fun _ h_ => h_.1)))); (case side2 => exact (by repeat (first | (with_reducible first | exact HB.out | apply below_alloc | apply pw_below_drewN | apply below_drew1 | refine below_set ?_ GE144.out) | exact HB.out))); (case side3 => exact Kd.C_nil _ _); (case side4 => exact Nat.le_refl _); rintro e w10 ⟨v146, rfl, ho0, hb⟩; refine ⟨_, rfl, ?_⟩; have n0_ := Aside0.mk (trivial); have n1_ := Aside0.mk (ho0); have n2_ := Aside0.mk (trivial); have n3_ := Aside0.mk (hb); clear HO_3; clear BK144; clear HB; have HO_3 := n0_; have HO147 := n1_; have BK144 := n2_; have HB := n3_; clear n0_ n1_ n2_ n3_; (try clear hb); (try clear hb2); (try clear hk); (try clear hi); (try clear ho0)))
              go_roundg k1
              case measure => have := HK1.out; omega
              case rel => exact ⟨(t145), (wrap64 (x9_1 + 1)), (by first | rfl | (simp; done) | (simp [*]; done)), H', ⟨by have := HK1.out; omega⟩, ⟨by (with_reducible repeat (first | apply Kd.S_alloc | apply Kd.S_drewN | apply Kd.S_drew)); exact Kd.S_mono HO147.out (fun _ hk => trivial)⟩, ⟨by repeat (first | (with_reducible first | exact HB.out | apply below_alloc | apply pw_below_drewN | apply below_drew1 | refine below_set ?_ GE144.out) | exact HB.out)⟩⟩
            · rw [if_neg c5] at H
              have c5b0 : (((rd_T26 l0 x9_1).f0) == 10) = false := beq_eq_false_iff_ne.mpr c5
              have c5b1 : (((rd_T26 l0 x9_1).f0) != 10) = true := bne_iff_ne.mpr c5
              replace H := Option.bind_eq_some_iff.mp H
              obtain ⟨t148, A110, H⟩ := H
              replace H : (blocks_Of.l0 k1 t148 l0 (l0.length : Int) (wrap64 (x9_1 + 1))) = some r := H
              have A11 := Aside0.mk A110
              clear A110
              have H' := Aside0.mk H
              clear H
              have p143 : 0 ≤ (x9_1 : Int) := of_decide_eq_true (by first | (with_reducible assumption) | assumption)
              have q143 : x9_1 < (l0.length : Int) := of_decide_eq_true (by first | (with_reducible assumption) | assumption)
              obtain ⟨ad143, A143_1, c143_1, e143, hx143_0, hx143_1, hl143_1, hi143_1⟩ := at_T26 HR0.out x9_1 p143 q143
              cases e143
              replace hx143_0 := (HB.out.cell (World.block_lt_of_cell? w _ hx143_0)).trans hx143_0
              replace hx143_1 := (HB.out.cell (World.block_lt_of_cell? w _ hx143_1)).trans hx143_1
              have HR143_1 := Aside0.mk hi143_1
              have HC143_1 := Aside0.mk hl143_1
              clear hi143_1 hl143_1
              replace p143 := eq_true p143
              replace q143 := eq_true q143
              go_wp2_with (first | ((with_reducible refine gate_dst (N := 5) rfl ?_); refine box_event ?hg (N := 5) ?hd (cs := #[.int .i32 0, .slice none 0 0]) (t := 26) ?hr ?_; (case hd => rfl); (case hg => rfl); (case hr => first | (go_simp; done) | (go_simp; rfl)); intro gb144 hg w12 hbox hb; have n0_ := Aside0.mk (Kd.S_below (by (with_reducible repeat (first | apply Kd.S_alloc | apply Kd.S_drewN | apply Kd.S_drew)); exact HO_3.out) hb); have n1_ := Aside0.mk (below_step (by repeat (first | (with_reducible first | exact HB.out | apply below_alloc | apply pw_below_drewN | apply below_drew1) | exact HB.out | exact Below.refl _ _)) hb); have n2_ := Aside0.mk (hbox); have n3_ := Aside0.mk ((by rw [hg]; exact (below_size (by repeat (first | (with_reducible first | exact HB.out | apply below_alloc | apply pw_below_drewN | apply below_drew1) | exact HB.out | exact Below.refl _ _))) : w.heap.size ≤ gb144)); have n4_ := Aside0.mk ((by rw [hg]; exact (below_size (by repeat (first | (with_reducible first | exact HB.out | apply below_alloc | apply pw_below_drewN | apply below_drew1) | exact HB.out | exact Below.refl _ _))) : w.heap.size ≤ gb144)); clear HO_3; clear HB; have HO_3 := n0_; have HB := n1_; have BK144 := n2_; have GW144 := n3_; have GE144 := n4_; clear n0_ n1_ n2_ n3_ n4_; clear hb hbox hg; have hcz13_0 : w12.cell? ⟨gb144, 0, none⟩ = some (.int .i32 0) := (blk_cell BK144.out 0).trans rfl; have hcz13_1 : w12.cell? ⟨gb144, 1, none⟩ = some (.slice none 0 0) := (blk_cell BK144.out 1).trans rfl; have hfz13_0 := blk_frozen BK144.out 0; have hfz13_1 := blk_frozen BK144.out 1; obtain ⟨Ao14, co14, eo14⟩ := Kd.S_slice HO_3.out; subst eo14) | ((with_reducible refine gate_callee (f := 24) rfl ?_); refine goesL_ (some 20) rfl rfl Try.func24 (by kernel_rfl) rfl #[.slice Ao14 x3_1.length co14, .int .i64 1, .slice A143_1 ((rd_T26 l0 x9_1).f1).length c143_1] rfl (by (try simp only [List.map_toArray, List.map_cons, List.map_nil]); first | done | rfl | (simp only [List.length_drop, List.length_take]; rfl)) ?_; (with_reducible refine (blocks_add.calls k1 _ _ x3_1 1 _ _ ((rd_T26 l0 x9_1).f1) t148 w _ ?side1 ?side2 ?side3 ?side4 A11.out).mono ?_); (case side1 => refine Kd.S_mono (ok := fun k_ => True) ?_ (fun _ _ => trivial); exact (by (with_reducible repeat (first | apply Kd.S_alloc | apply Kd.S_drewN | apply Kd.S_drew)); exact (Kd.S_mono (Kd.S_far (p := ⟨gb144, 1, none⟩) (Kd.S_far (p := ⟨gb144, 0, none⟩) (Kd.S_types HO_3.out BK144.out (by decide)) (fun _ hk => hk.2) (.int .i32 ((rd_T26 l0 x9_1).f0))) (fun _ hk => hk.2) (.slice A143_1 ((rd_T26 l0 x9_1).f1).length c143_1)) (fun _ h_ => h_.1)))); (case side2 => exact (by repeat (first | (with_reducible first | exact HB.out | apply below_alloc | apply pw_below_drewN | apply below_drew1 | refine below_set ?_ GE144.out) | exact HB.out))); (case side3 => exact HR143_1.out); (case side4 => exact HC143_1.out); rintro e w15 ⟨v149, rfl, ho0, hb⟩; refine ⟨_, rfl, ?_⟩; have n0_ := Aside0.mk (trivial); have n1_ := Aside0.mk (ho0); have n2_ := Aside0.mk (trivial); have n3_ := Aside0.mk (hb); clear HO_3; clear BK144; clear HB; have HO_3 := n0_; have HO150 := n1_; have BK144 := n2_; have HB := n3_; clear n0_ n1_ n2_ n3_; (try clear hb); (try clear hb2); (try clear hk); (try clear hi); (try clear ho0)))
              go_roundg k1
              case measure => have := HK1.out; omega
              case rel => exact ⟨(t148), (wrap64 (x9_1 + 1)), (by first | rfl | (simp; done) | (simp [*]; done)), H', ⟨by have := HK1.out; omega⟩, ⟨by (with_reducible repeat (first | apply Kd.S_alloc | apply Kd.S_drewN | apply Kd.S_drew)); exact Kd.S_mono HO150.out (fun _ hk => trivial)⟩, ⟨by repeat (first | (with_reducible first | exact HB.out | apply below_alloc | apply pw_below_drewN | apply below_drew1 | refine below_set ?_ GE144.out) | exact HB.out)⟩⟩
          · rw [if_neg c4] at H
            exact absurd H (by simp)
        · rw [if_neg c3] at H
          exact absurd H (by simp)
      · rw [if_neg c2] at H
        have c2b0 : decide (x9_1 < (l0.length : Int)) = false := decide_eq_false c2
        clear c2
        obtain rfl := Option.some.inj H
        go_wp2
        go_ret
        exact ⟨_, by first | rfl | (simp [errW_none, errW_some] <;> rfl) | (simp [*, errW_none, errW_some] <;> rfl), by (with_reducible repeat (first | apply Kd.S_alloc | apply Kd.S_drewN | apply Kd.S_drew)); exact HO_3.out, by repeat (first | (with_reducible first | exact HB.out | apply below_alloc | apply pw_below_drewN | apply below_drew1) | exact HB.out | exact Below.refl _ _)⟩
end Go.Proofs.Ytpnoeggnniagfaa.P
namespace Go.Proofs.Ytpnoeggnniagfaa.P
open Go.RowKit Go.Shelf Go.Proofs.YtpnoeggnniagfaaW.PrintWords Go.Proofs.YtpnoeggnniagfaaW.PrintLast Go.Proofs.YtpnoeggnniagfaaW.PrintMore
set_option linter.unusedVariables false
attribute [local go_sem] Oper.semAt_some
/-- What the loop's body may write (O), and what holds of its own blocks (G). -/
structure EachOwn (G : World → Prop) (O : World → Nat → Prop) : Prop where
  lt : ∀ {W k}, G W → O W k → k < W.heap.size
  grow : ∀ {A B}, G A → A.grownBy B none → G B ∧ ∀ k, O B k → O A k
  put : ∀ {W l o} (o' : Obj), G W → W.heap[l]? = some o → o.isCells = false → G (W.putObj l o') ∧ ∀ k, O (W.putObj l o') k → O W k
/-- What a round that goes on keeps: every block of cells but the body's own. -/
def EachKp (G : World → Prop) (O : World → Nat → Prop) (W W' : World) : Prop :=
  G W → G W' ∧ W.heap.size ≤ W'.heap.size ∧ (∀ k cs t f, W.heap[k]? = some (.cells cs t f) → ¬ O W k → W'.heap[k]? = some (.cells cs t f)) ∧ ∀ k, O W' k → O W k ∨ W.heap.size ≤ k
theorem EachKp.trans {G : World → Prop} {O : World → Nat → Prop} {A B C : World} (h : EachKp G O A B) (k : EachKp G O B C) : EachKp G O A C := by
  intro g
  obtain ⟨gb, sb, kb, ob⟩ := h g
  obtain ⟨gc, sc, kc, oc⟩ := k gb
  refine ⟨gc, Nat.le_trans sb sc, fun i cs t f hc ho => ?_, fun i hi => ?_⟩
  · have hb := kb i cs t f hc ho
    refine kc i cs t f hb (fun hbo => ?_)
    rcases ob i hbo with h1 | h1
    · exact ho h1
    · have := (Array.getElem?_eq_some_iff.1 hc).1; omega
  · rcases oc i hi with h1 | h1
    · exact ob i h1
    · right; omega
theorem EachKp.put {G : World → Prop} {O : World → Nat → Prop} (hE : EachOwn G O) (W : World) (l : Nat) (o o' : Obj) (hl : W.heap[l]? = some o) (hc : o.isCells = false) : EachKp G O W (W.putObj l o') := by
  intro g
  obtain ⟨g2, o2⟩ := hE.put o' g hl hc
  have hg := grownBy_putObj' W l o'
  refine ⟨g2, hg.size, fun k cs t f hk ho => ?_, fun k hk => .inl (o2 k hk)⟩
  have hne : k ≠ l := by
    rintro rfl
    rw [hl] at hk
    cases hk
    simp [Obj.isCells] at hc
  exact (hg.block k (Array.getElem?_eq_some_iff.1 hk).1 (fun e => hne (by cases e; rfl))).trans hk
theorem EachKp.grow {G : World → Prop} {O : World → Nat → Prop} (hE : EachOwn G O) {A B : World} (hg : A.grownBy B none) : EachKp G O A B := by
  intro g
  obtain ⟨g2, o2⟩ := hE.grow g hg
  exact ⟨g2, hg.size, fun k cs t f hk ho => (hg.block k (Array.getElem?_eq_some_iff.1 hk).1 (by simp)).trans hk, fun k hk => .inl (o2 k hk)⟩
theorem cell_of_heap {W W' : World} {a : Addr} (h : W'.heap[a.block]? = W.heap[a.block]?) : W'.cell? a = W.cell? a := by
  simp only [World.cell?, h]
theorem cells_of_cell {W : World} {a : Addr} {v : Value} (h : W.cell? a = some v) : ∃ cs t f, W.heap[a.block]? = some (.cells cs t f) := by
  unfold World.cell? at h
  split at h <;> rename_i hh
  · exact ⟨_, _, _, hh⟩
  all_goals cases h
/-- Where block k of a row of blocks begins (as the program counts). -/
def atP (xs : List S34) (k : Nat) : Int := (xs.take k).foldl (fun s b => wrap64 (s + b.f0)) 0
theorem atP_succ (xs : List S34) (k : Nat) (hk : k < xs.length) : atP xs (k + 1) = wrap64 (atP xs k + (xs.getD k z34).f0) := by
  unfold atP
  rw [List.take_add_one, List.foldl_append, List.getElem?_eq_getElem hk, List.getD_eq_getElem?_getD, List.getElem?_eq_getElem hk]
  rfl
def encB (xs : List S34) (As : Nat → Option Addr) (Cs : Nat → Nat) (x : Fin xs.length) : Array Value :=
  #[.int .i64 (atP xs x.1), .agg #[.int .i64 (xs[x.1]'x.2).f0, .slice (As x.1) (xs[x.1]'x.2).f1.length (Cs x.1)]]
set_option maxRecDepth 100000 in
set_option maxHeartbeats 8000000 in
theorem each1_in (F : Fence) (n : Nat) (hf : F.fn 30) (hro : F.round = none) (hn : 1 ≤ n) (l Bs : Nat) (ad : Addr) (cap : Nat) (xs : List S34) (As : Nat → Option Addr) (Cs : Nat → Nat) (G : World → Prop) (O : World → Nat → Prop) (hE : EachOwn G O)
    (hreach : xs.length * 32 ≤ 140737488351232) (J Jx : List (Fin xs.length) → World → Prop) (W : World) (hJ : AbidesFrom W.heap.size J) (g0 : G W)
    (hY : ∀ (pre : List (Fin xs.length)) (x : Fin xs.length) (W1 : World), J pre W1 → pre.length < xs.length → YieldAt F (n - 1) Try.prog l (encB xs As Cs x) W1 fun e W' =>
      (e = .returned (.bool true) ∧ J (pre ++ [x]) W' ∧ EachKp G O W1 W') ∨ (e = .returned (.bool false) ∧ Jx (pre ++ [x]) W'))
    (hBs : W.heap[Bs]? = some (.cells #[.slice (some ad) xs.length cap] 27 (0, 0))) (hOs : ¬ O W Bs) (hOa : ¬ O W ad.block)
    (hc0 : ∀ j, j < xs.length → W.cell? (ad.add (j * 2)) = some (.int .i64 (xs.getD j z34).f0)) (hc1 : ∀ j, j < xs.length → W.cell? ⟨(ad.add (j * 2)).block, (ad.add (j * 2)).off + 1, none⟩ = some (.slice (As j) (xs.getD j z34).f1.length (Cs j))) (h0 : J [] W) :
    CallsIn F n Try.prog 30 #[.func (.yield l) #[] #[], .pointer (some ⟨Bs, 0, none⟩)] W fun e W' => (∃ v, e = .returned v) ∧
      ((∃ ys, ys = List.finRange xs.length ∧ J ys W') ∨ (∃ pre, (∃ k : Nat, k < xs.length ∧ pre = (List.finRange xs.length).take (k + 1)) ∧ Jx pre W')) := by
  have hcs := Boxed.cell (t := 27) (v := .slice (some ad) xs.length cap) hBs
  refine callsIn_of_wp Try.func30 rfl hf ?_ hro
  simp only [Try.ntmps30, List.size_toArray, List.length_cons, List.length_nil, Nat.reduceAdd, Nat.reduceSub, Array.replicate_succ, Array.replicate_zero, List.push_toArray, List.append_toArray, List.nil_append, List.cons_append]
  gi_wp2
  gi_loopw [3, 8] (fun p i wr => ∃ k : Nat, k ≤ xs.length ∧ p = .int .i64 (atP xs k) ∧ i = .int .i64 k ∧ J ((List.finRange xs.length).take k) wr ∧ EachKp G O W wr)
    (fun p i _ => xs.length - (intOf i).toNat)
  case atStart => exact ⟨0, Nat.zero_le _, rfl, rfl, h0, EachKp.grow hE ⟨rfl, rfl, rfl, Nat.le_refl _, fun _ _ _ => rfl⟩⟩
  case round =>
    obtain ⟨k, hk, rfl, rfl, hJs, hnx⟩ := hrel
    obtain ⟨gw, hsz, hcell, howns⟩ := hnx g0
    have hkeep : ∀ {a : Addr} {v : Value}, W.cell? a = some v → ¬ O W a.block → wr.cell? a = some v := fun {a v} h ho => by
      obtain ⟨cs, t, f, hh⟩ := cells_of_cell h
      rw [cell_of_heap (W := W) ((hcell _ cs t f hh ho).trans hh.symm)]; exact h
    by_cases hlt : k < xs.length
    · have hx0 := hkeep (hc0 k hlt) (by unfold Addr.add; split <;> exact hOa)
      have hx1 := hkeep (hc1 k hlt) (by unfold Addr.add; split <;> exact hOa)
      have hgB : wr.grownBy (wr.alloc (.cells #[.int .i64 xs[k].f0, .slice (As k) xs[k].f1.length (Cs k)] 34)) none := World.grownBy_alloc _ _ none
      have hJB := hJ _ _ _ none hJs hgB (fun r e => by cases e)
      obtain ⟨fn, tmps, assign, body, hy, hR⟩ := hY _ ⟨k, hlt⟩ _ hJB (by simp; omega)
      simp only [encB] at hy
      have hkB : EachKp G O W (wr.alloc (.cells #[.int .i64 xs[k].f0, .slice (As k) xs[k].f1.length (Cs k)] 34)) := hnx.trans (EachKp.grow hE hgB)
      have hnew := World.alloc_heap_new wr (.cells #[.int .i64 xs[k].f0, .slice (As k) xs[k].f1.length (Cs k)] 34)
      gi_wp2
      refine hR.mono ?_
      rintro e W3 (⟨rfl, hJ3, hk3⟩ | ⟨rfl, hJx3⟩)
      · -- the round goes on: the iterator's own box is read behind it
        obtain ⟨g3, s3, c3, o3⟩ := hk3 (hE.grow gw hgB).1
        have hbox := c3 wr.heap.size _ _ _ hnew (fun ho => by
          have := hE.lt gw ((hE.grow gw hgB).2 _ ho); omega)
        have hb0 : W3.cell? ⟨wr.heap.size, 0, none⟩ = some (.int .i64 xs[k].f0) := by simp [World.cell?, hbox]
        gi_wp2
        go_roundw
        case rel => exact ⟨k + 1, by omega, by rw [atP_succ xs k hlt]; simp [hlt], by simp, by
          have e_ : (List.finRange xs.length).take (k + 1) = (List.finRange xs.length).take k ++ [⟨k, hlt⟩] := by
            rw [List.take_add_one, List.getElem?_eq_getElem (by simpa using hlt)]; simp
          rw [e_]; exact hJ3, hkB.trans hk3⟩
        case measure => simp [intOf]; omega
      · gi_wp2
        refine bodyPost_ret (results_none rfl _ _ _) rfl ?_
        exact ⟨⟨_, rfl⟩, .inr ⟨_, ⟨k, hlt, by
          rw [List.take_add_one, List.getElem?_eq_getElem (by simpa using hlt)]; simp⟩, hJx3⟩⟩
    · obtain rfl : k = xs.length := by omega
      gi_wp2
      go_end0
      exact ⟨⟨_, rfl⟩, .inl ⟨_, rfl, by rw [List.take_of_length_le (by simp)] at hJs; exact hJs⟩⟩
set_option maxRecDepth 100000 in
set_option maxHeartbeats 8000000 in
theorem each1_nil (F : Fence) (n : Nat) (hf : F.fn 30) (hro : F.round = none) (l Bs : Nat) (A : Option Addr) (cap : Nat) (J : List (Fin 0) → World → Prop) (W : World) (hBs : W.heap[Bs]? = some (.cells #[.slice A 0 cap] 27 (0, 0))) (h0 : J [] W) :
    CallsIn F n Try.prog 30 #[.func (.yield l) #[] #[], .pointer (some ⟨Bs, 0, none⟩)] W fun e W' => (∃ v, e = .returned v) ∧ J [] W' := by
  have hcs := Boxed.cell (t := 27) (v := .slice A 0 cap) hBs
  refine callsIn_of_wp Try.func30 rfl hf ?_ hro
  simp only [Try.ntmps30, List.size_toArray, List.length_cons, List.length_nil, Nat.reduceAdd, Nat.reduceSub, Array.replicate_succ, Array.replicate_zero, List.push_toArray, List.append_toArray, List.nil_append, List.cons_append]
  gi_wp2
  gi_loopw [3, 8] (fun p i wr => p = .int .i64 0 ∧ i = .int .i64 0 ∧ J [] wr) (fun _ _ _ => 0)
  case atStart => exact ⟨rfl, rfl, h0⟩
  case round =>
    obtain ⟨rfl, rfl, hJs⟩ := hrel
    gi_wp2
    go_end0
    exact ⟨⟨_, rfl⟩, hJs⟩
set_option maxHeartbeats 1000000 in
theorem each_in (F : Fence) (n : Nat) (h25 : F.fn 25) (hro : F.round = none) (a : Option Addr) (len cap : Nat) (w : World) :
    CallsIn F n Try.prog 25 #[.slice a len cap] w fun e w' => e = .returned (.func (.func 30) #[] #[.pointer (some ⟨w.heap.size, 0, none⟩)]) ∧ w' = w.alloc (.cells #[.slice a len cap] 27) := by
  refine callsIn_of_wp Try.func25 rfl h25 ?_ hro
  simp only [Try.ntmps25, List.size_toArray, List.length_cons, List.length_nil, Nat.reduceAdd, Nat.reduceSub, Array.replicate_succ, Array.replicate_zero, List.push_toArray, List.append_toArray, List.nil_append, List.cons_append]
  gi_wp2
  go_ret
  exact ⟨rfl, rfl⟩
/-- The cells of a slice of blocks. -/
def EachCells (w : World) (A : Option Addr) (xs : List S34) (As : Nat → Option Addr) (Cs : Nat → Nat) : Prop :=
  ∀ j, j < xs.length → ∃ ad, A = some ad ∧ w.cell? (ad.add (j * 2)) = some (.int .i64 (xs.getD j z34).f0) ∧ w.cell? ⟨(ad.add (j * 2)).block, (ad.add (j * 2)).off + 1, none⟩ = some (.slice (As j) (xs.getD j z34).f1.length (Cs j))
theorem eachCells_of {w : World} {A : Option Addr} {xs : List S34} (h : Kd.C k34 w A xs.length xs) : ∃ As Cs, EachCells w A xs As Cs ∧ ∀ j, j < xs.length → (xs.getD j z34).f1.length ≤ Cs j ∧ Kd.C k46 w (As j) (xs.getD j z34).f1.length (xs.getD j z34).f1 := by
  have h1 : ∀ j : Nat, ∃ (p : Option Addr × Nat), j < xs.length → (∃ ad, A = some ad ∧ w.cell? (ad.add (j * 2)) = some (.int .i64 (xs.getD j z34).f0) ∧ w.cell? ⟨(ad.add (j * 2)).block, (ad.add (j * 2)).off + 1, none⟩ = some (.slice p.1 (xs.getD j z34).f1.length p.2)) ∧ (xs.getD j z34).f1.length ≤ p.2 ∧ Kd.C k46 w p.1 (xs.getD j z34).f1.length (xs.getD j z34).f1 := by
    intro j
    by_cases hj : j < xs.length
    · obtain ⟨ad, A1, c1, e, x0, x1, l1, i1⟩ := at_T34 h (j : Int) (by omega) (by omega)
      have e1 : rd_T34 xs (j : Int) = xs.getD j z34 := by simp [rd_T34]
      rw [e1] at x0 x1 l1 i1
      rw [Int.toNat_natCast] at x0 x1
      exact ⟨(A1, c1), fun _ => ⟨⟨ad, e, x0, x1⟩, l1, i1⟩⟩
    · exact ⟨(none, 0), fun hj2 => absurd hj2 hj⟩
  obtain ⟨f, hf⟩ := Classical.skolem.1 h1
  exact ⟨fun j => (f j).1, fun j => (f j).2, fun j hj => (hf j hj).1, fun j hj => (hf j hj).2⟩
theorem EachCells.below {w w' : World} {A : Option Addr} {xs : List S34} {As : Nat → Option Addr} {Cs : Nat → Nat} (h : EachCells w A xs As Cs) (hb : Below w.heap.size w w') : EachCells w' A xs As Cs := by
  intro j hj
  obtain ⟨ad, e, x0, x1⟩ := h j hj
  exact ⟨ad, e, (hb.cell (World.block_lt_of_cell? w _ x0)).trans x0, (hb.cell (World.block_lt_of_cell? w _ x1)).trans x1⟩
theorem add_block (a : Addr) (n : Nat) : (a.add n).block = a.block := by unfold Addr.add; split <;> rfl
theorem each_stops (F : Fence) (n : Nat) (hf : F.fn 30) (hro : F.round = none) (hn : 1 ≤ n) (Bs : Nat) (A : Option Addr) (cap : Nat) (xs : List S34) (As : Nat → Option Addr) (Cs : Nat → Nat) (G : World → Prop) (O : World → Nat → Prop) (hE : EachOwn G O)
    (hreach : xs.length * 32 ≤ 140737488351232) (w : World) (hGW : ∀ W, Below w.heap.size w W → G W ∧ ∀ k, k < w.heap.size → O W k → O w k) (hBs : w.heap[Bs]? = some (.cells #[.slice A xs.length cap] 27 (0, 0))) (hOs : ¬ O w Bs) (hOa : ∀ ad, A = some ad → 0 < xs.length → ¬ O w ad.block)
    (hc : EachCells w A xs As Cs) :
    SeqStopsK F n Try.prog 30 #[.pointer (some ⟨Bs, 0, none⟩)] (encB xs As Cs) (EachKp G O) (fun ys => ys = List.finRange xs.length) (fun pre => ∃ k : Nat, k < xs.length ∧ pre = (List.finRange xs.length).take (k + 1)) xs.length w := by
  intro l J Jx W hW hJ _ hY h0
  have hlt := (Array.getElem?_eq_some_iff.1 hBs).1
  have hBs' : W.heap[Bs]? = some (.cells #[.slice A xs.length cap] 27 (0, 0)) := (hW.block Bs hlt).trans hBs
  have hc' := hc.below hW
  rcases Nat.eq_zero_or_pos xs.length with hz | hz
  · obtain rfl := List.eq_nil_of_length_eq_zero hz
    exact (each1_nil F n hf hro l Bs A cap J W hBs' h0).mono fun e W' ⟨he, hj⟩ => ⟨he, .inl ⟨_, rfl, hj⟩⟩
  · obtain ⟨ad, rfl, x0, _⟩ := hc 0 hz
    refine each1_in F n hf hro hn l Bs ad cap xs As Cs G O hE hreach J Jx W hJ (hGW W hW).1 hY hBs' (fun h => hOs ((hGW W hW).2 _ hlt h)) (fun h => hOa ad rfl hz ((hGW W hW).2 _ ?_ h)) ?_ ?_ h0
    · have := World.block_lt_of_cell? w _ x0; rwa [add_block] at this
    · intro j hj; obtain ⟨ad2, e, y0, y1⟩ := hc' j hj; cases e; exact y0
    · intro j hj; obtain ⟨ad2, e, y0, y1⟩ := hc' j hj; cases e; exact y1
end Go.Proofs.Ytpnoeggnniagfaa.P
namespace Go.Proofs.Ytpnoeggnniagfaa.P
open Go.RowKit Go.Shelf Go.Proofs.YtpnoeggnniagfaaW.PrintWords Go.Proofs.YtpnoeggnniagfaaW.PrintLast Go.Proofs.YtpnoeggnniagfaaW.PrintMore
set_option linter.unusedVariables false
attribute [local go_sem] Oper.semAt_some
theorem ownOne (nb : Nat) : EachOwn (fun W => nb < W.heap.size) (fun _ k => k = nb) where
  lt := fun g h => by subst h; exact g
  grow := fun g hg => ⟨Nat.lt_of_lt_of_le g hg.size, fun _ h => h⟩
  put := fun o' g _ _ => ⟨Nat.lt_of_lt_of_le g (grownBy_putObj' _ _ o').size, fun _ h => h⟩
theorem EachKp.setOne {nb : Nat} {W : World} (hlt : nb < W.heap.size) (v : Value) : EachKp (fun W => nb < W.heap.size) (fun _ k => k = nb) W (W.setCell ⟨nb, 0, none⟩ v) := by
  intro g
  have hg := grownBy_setCell' W nb v
  refine ⟨Nat.lt_of_lt_of_le g hg.size, hg.size, fun k cs t f hk ho => (hg.block k (Array.getElem?_eq_some_iff.1 hk).1 (fun e => ho (by cases e; rfl))).trans hk, fun k hk => .inl hk⟩
def valP (xs : List S34) (pre : List (Fin xs.length)) : Int := match pre.getLast? with | none => 0 | some x => atP xs (x.1 + 1)
theorem valP_snoc (xs : List S34) (pre : List (Fin xs.length)) (x : Fin xs.length) : valP xs (pre ++ [x]) = wrap64 (atP xs x.1 + (xs[x.1]'x.2).f0) := by
  unfold valP
  simp [atP_succ]
theorem valP_all (xs : List S34) : valP xs (List.finRange xs.length) = atP xs xs.length := by
  unfold valP
  rcases Nat.eq_zero_or_pos xs.length with hz | hz
  · obtain rfl := List.eq_nil_of_length_eq_zero hz
    rfl
  · rw [List.getLast?_eq_getElem?, List.getElem?_eq_getElem (by simp; omega)]
    simp
    congr 1
    omega
set_option maxRecDepth 100000 in
set_option maxHeartbeats 8000000 in
theorem Len_in (F : Fence) (n : Nat) (h13 : F.fn 13) (h25 : F.fn 25) (h30 : F.fn 30) (hro : F.round = none) (hn : 6 ≤ n) (A : Option Addr) (cap : Nat) (xs : List S34) (hreach : xs.length * 32 ≤ 140737488351232) (w : World) (hC : Kd.C k34 w A xs.length xs) :
    CallsIn F n Try.prog 13 #[.slice A xs.length cap] w fun e W' => e = .returned (.int .i64 (atP xs xs.length)) ∧ Below w.heap.size w W' := by
  have h1 : 1 ≤ n := by omega
  obtain ⟨As, Cs, hEC, hin⟩ := eachCells_of hC
  refine callsIn_of_wp_marks Try.func13 rfl h13 ?_ hro
  simp only [Try.ntmps13, List.size_toArray, List.length_cons, List.length_nil, Nat.reduceAdd, Nat.reduceSub, Array.replicate_succ, Array.replicate_zero, List.push_toArray, List.append_toArray, List.nil_append, List.cons_append]
  gi_wp2_with (gi_at_call 25; refine (each_in F (n - 1) h25 hro _ _ _ _).mono ?_; rintro e w' ⟨rfl, rfl⟩)
  have bN := (Boxed.new w 3 (.int .i64 0)).alloc (.cells #[.slice A xs.length cap] 27)
  have bL := Boxed.new (w.alloc (.cells #[.int .i64 0] 3)) 27 (.slice A xs.length cap)
  simp only [World.size_alloc] at bL
  have hB0 : Below w.heap.size w ((w.alloc (.cells #[.int .i64 0] 3)).alloc (.cells #[.slice A xs.length cap] 27)) := ((Below.refl _ w).alloc (Nat.le_refl _) _).alloc (by simp) _
  have hsz : ((w.alloc (.cells #[.int .i64 0] 3)).alloc (.cells #[.slice A xs.length cap] 27)).heap.size = w.heap.size + 2 := by simp
  obtain ⟨W0, hW0⟩ : ∃ W0, (w.alloc (.cells #[.int .i64 0] 3)).alloc (.cells #[.slice A xs.length cap] 27) = W0 := ⟨_, rfl⟩
  rw [hW0] at bN bL hB0 hsz ⊢
  clear hW0
  have hAd : ∀ ad, A = some ad → 0 < xs.length → ad.block < w.heap.size := by
    intro ad e hp
    obtain ⟨ad2, e2, x0, _⟩ := hEC 0 hp
    rw [e] at e2; cases e2
    have := World.block_lt_of_cell? w _ x0
    rwa [add_block] at this
  refine wpIn_rangeFunc_ownH hro h1 (gf := 30) (lb := #[.pointer (some ⟨w.heap.size + 1, 0, none⟩)]) rfl h30 (enters_of Try.func30 (by kernel_rfl) rfl)
    (each_stops F (n - 1) h30 hro (by omega) (w.heap.size + 1) A cap xs As Cs _ _ (ownOne w.heap.size) hreach W0 (fun W hW => ⟨by have := hW.size; omega, fun k _ h => h⟩) bL (by show ¬ (w.heap.size + 1 = w.heap.size); omega)
      (fun ad e hp => by have := hAd ad e hp; show ¬ (ad.block = w.heap.size); omega) (hEC.below hB0)) (fun h k => EachKp.trans h k) (fun W l o o' _ hl hc _ => EachKp.put (ownOne w.heap.size) W l o o' hl hc) (Below.refl _ _) (fun _ => rfl)
    (fun pre W => (Boxed W w.heap.size 3 (.int .i64 (valP xs pre)) ∧ Boxed W (w.heap.size + 1) 27 (.slice A xs.length cap)) ∧ Below w.heap.size w W)
    (fun _ _ _ => False)
    (OwnFrom.and (OwnFrom.and (Own.from (boxed_own _ _ _) _) (Own.from (boxed_own _ _ _) _)) (ownFrom_below (Nat.le_refl _) (by omega)))
    (fun _ _ _ _ _ hs _ _ => hs)
    ⟨⟨bN, bL⟩, hB0⟩
    (fun x a' W => ∃ Bx, w.heap.size + 1 < Bx ∧ W.heap[Bx]? = some (.cells #[.int .i64 (xs[x.1]'x.2).f0, .slice (As x.1) (xs[x.1]'x.2).f1.length (Cs x.1)] 34 (0, 0)) ∧ a' = { tmps := #[.slice A xs.length cap, undef, .int .i64 0, .pointer (some ⟨w.heap.size, 0, none⟩), .int .i64 (atP xs x.1), .pointer (some ⟨Bx, 0, none⟩), .slice A xs.length cap, .func (.func 30) #[] #[.pointer (some ⟨w.heap.size + 1, 0, none⟩)], .int .i64 (atP xs x.1), .agg #[.int .i64 (xs[x.1]'x.2).f0, .slice (As x.1) (xs[x.1]'x.2).f1.length (Cs x.1)], undef, undef, undef, undef, undef], defers := [] })
    (fun x a' _ X Y row hs hg hr => by
      obtain ⟨Bx, h1, h2, h3⟩ := hs
      refine ⟨Bx, h1, (hg.block Bx (Array.getElem?_eq_some_iff.1 h2).1 (fun e => ?_)).trans h2, h3⟩
      obtain ⟨_, o, ho, hc⟩ := hr Bx e.symm
      rw [h2] at ho; cases ho; simp [Obj.isCells] at hc)
    ?assign ?body ?done ?stop
  case assign =>
    rintro l pre x W K ⟨⟨bN1, bL1⟩, hB1⟩ hK
    simp only [encB]
    gi_wp2
    exact hK _ _ ((KeepsOthers.alloc _ _).from _) (EachKp.grow (ownOne w.heap.size) (World.grownBy_alloc _ _ none)) ⟨⟨bN1.alloc _, bL1.alloc _⟩, hB1.alloc hB1.size _⟩ ⟨W.heap.size, bL1.lt, World.alloc_heap_new W _, rfl⟩
  case body =>
    rintro l pre x a' W hl ⟨r, hr⟩ ⟨⟨bN1, bL1⟩, hB1⟩ ⟨Bx, hBx, bX, rfl⟩ hlt
    have cN := bN1.cell
    have fN := bN1.frozen
    have cX : W.cell? ⟨Bx, 0, none⟩ = some (.int .i64 (xs[x.1]'x.2).f0) := by simp [World.cell?, bX]
    gi_wp2
    refine ⟨(KeepsOthers.setCell _ _ _).from _, EachKp.setOne bN1.lt _, ⟨by rw [valP_snoc]; exact bN1.set _, bL1.other (by omega) _⟩, hB1.setCell (p := ⟨w.heap.size, 0, none⟩) (Nat.le_refl _) _⟩
  case done =>
    rintro D zs W hD rfl ⟨⟨bN1, bL1⟩, hB1⟩ hK
    have cN := bN1.cell
    gi_wp2
    refine ⟨by simp, .inl ⟨_, _, rfl, run_takeDeferred hK, ?_⟩⟩
    exact ⟨_, results_tmp rfl _ _ _, by rw [valP_all]; rfl, hB1.trans (belowK_b (w := w) (Nat.le_refl _) W D _ _ (by omega) hK rfl rfl)⟩
  case stop =>
    rintro D c pre W _ _ h _
    exact h.elim
def blocks_Len.f (l0 : List S34) : Option Int := if l0.length * 32 ≤ 140737488351232 then some (atP l0 l0.length) else none
theorem blocks_Len.calls (A0 : Option Addr) (c0 : Nat) (l0 : List (S34)) (r : Int) (w : World) (hr0 : Kd.C k34 w A0 l0.length l0) (hc0 : l0.length ≤ c0) (h : blocks_Len.f l0 = some r) :
    Calls Try.prog 13 #[.slice A0 l0.length c0] w fun e w' => e = .returned (.int .i64 r) ∧ Below w.heap.size w w' := by
  unfold blocks_Len.f at h
  split at h
  · cases h
    exact callsIn_wide.1 (Len_in Fence.wide 6 trivial trivial trivial rfl (by omega) A0 c0 l0 (by assumption) w hr0)
  · cases h
end Go.Proofs.Ytpnoeggnniagfaa.P
namespace Go.Proofs.Ytpnoeggnniagfaa.P
open Go.RowKit Go.Shelf Go.Proofs.YtpnoeggnniagfaaW.PrintWords Go.Proofs.YtpnoeggnniagfaaW.PrintLast Go.Proofs.YtpnoeggnniagfaaW.PrintMore
set_option linter.unusedVariables false
attribute [local go_sem] Oper.semAt_some
theorem ownNone : EachOwn (fun _ => True) (fun _ _ => False) where
  lt := fun _ h => h.elim
  grow := fun _ _ => ⟨trivial, fun _ h => h⟩
  put := fun _ _ _ _ => ⟨trivial, fun _ h => h⟩
theorem EachKp.refl' (W : World) : EachKp (fun _ => True) (fun _ _ => False) W W := fun _ => ⟨trivial, Nat.le_refl _, fun _ _ _ _ h _ => h, fun _ h => h.elim⟩
theorem KeepsFrom.of_below {B : Nat} {W W' : World} (h : Below W.heap.size W W') : KeepsFrom B W W' := ⟨h.size, fun k o _ hk _ => (h.block k (Array.getElem?_eq_some_iff.1 hk).1).trans hk⟩
def hitP (xs : List S34) (i : Int) (x : Fin xs.length) : Bool := decide (atP xs x.1 ≤ i) && decide (i < wrap64 (atP xs x.1 + (xs[x.1]'x.2).f0))
theorem R_turn {α : Type} {d : Kd α} {e base : Nat} {ok : Nat → Prop} {v : Value} {xs : List α} {W W' : World} {row : Option Nat} (h : Kd.R d e W base ok v xs) (hg : W.grownBy W' row) (hr : ∀ r, row = some r → ∃ o : Obj, W.heap[r]? = some o ∧ o.isCells = false) : Kd.R d e W' base ok v xs :=
  Kd.R_mono (Kd.R_grown (Kd.R_bound h) hg (fun k hk e => by
    obtain ⟨_, _, _, q, _, cells, hc⟩ := hk
    obtain ⟨o, ho, hn⟩ := hr k e.symm
    rw [hc] at ho; cases ho; simp [Obj.isCells] at hn)) (fun _ hk => hk.1)
set_option maxRecDepth 100000 in
set_option maxHeartbeats 8000000 in
theorem At_in (n : Nat) (hn : 6 ≤ n) (A : Option Addr) (cap : Nat) (xs : List S34) (i : Int) (hreach : xs.length * 32 ≤ 140737488351232) (hsets : ∀ b ∈ xs, b.f1.length < 2932031007402) (w : World) (hC : Kd.C k34 w A xs.length xs) :
    CallsIn Fence.wide n Try.prog 14 #[.slice A xs.length cap, .int .i64 i] w fun e W' => ∃ v0_ : Value, e = .returned (.tuple #[v0_, .bool ((List.finRange xs.length).find? (hitP xs i)).isSome]) ∧
      Kd.R k46 46 W' w.heap.size (fun _ => True) v0_ (((List.finRange xs.length).find? (hitP xs i)).elim [] (fun x => (xs[x.1]'x.2).f1)) ∧ Below w.heap.size w W' := by
  have h1 : 1 ≤ n := by omega
  have hro : Fence.wide.round = none := rfl
  obtain ⟨As, Cs, hEC, hin⟩ := eachCells_of hC
  refine callsIn_of_wp_marks Try.func14 rfl trivial ?_ hro
  simp only [Try.ntmps14, List.size_toArray, List.length_cons, List.length_nil, Nat.reduceAdd, Nat.reduceSub, Array.replicate_succ, Array.replicate_zero, List.push_toArray, List.append_toArray, List.nil_append, List.cons_append]
  gi_wp2_with ((refine ⟨trivial, ?_⟩; gi_at_call 25; refine (each_in Fence.wide (n - 1) trivial hro _ _ _ _).mono ?_; rintro e w' ⟨rfl, rfl⟩))
  have b0 := (((Boxed.new w 3 (.int .i64 i)).alloc (.cells #[.slice none 0 0] 24)).alloc (.cells #[.bool false] 4)).alloc (.cells #[.slice A xs.length cap] 27)
  have b1 := ((Boxed.new (w.alloc (.cells #[.int .i64 i] 3)) 24 (.slice none 0 0)).alloc (.cells #[.bool false] 4)).alloc (.cells #[.slice A xs.length cap] 27)
  have b2 := (Boxed.new ((w.alloc (.cells #[.int .i64 i] 3)).alloc (.cells #[.slice none 0 0] 24)) 4 (.bool false)).alloc (.cells #[.slice A xs.length cap] 27)
  have b3 := Boxed.new (((w.alloc (.cells #[.int .i64 i] 3)).alloc (.cells #[.slice none 0 0] 24)).alloc (.cells #[.bool false] 4)) 27 (.slice A xs.length cap)
  simp only [World.size_alloc] at b1 b2 b3
  have hB0 : Below w.heap.size w ((((w.alloc (.cells #[.int .i64 i] 3)).alloc (.cells #[.slice none 0 0] 24)).alloc (.cells #[.bool false] 4)).alloc (.cells #[.slice A xs.length cap] 27)) := ((((Below.refl _ w).alloc (Nat.le_refl _) _).alloc (by simp) _).alloc (by simp; omega) _).alloc (by simp; omega) _
  have hsz : ((((w.alloc (.cells #[.int .i64 i] 3)).alloc (.cells #[.slice none 0 0] 24)).alloc (.cells #[.bool false] 4)).alloc (.cells #[.slice A xs.length cap] 27)).heap.size = w.heap.size + 4 := by simp
  obtain ⟨W0, hW0⟩ : ∃ W0, (((w.alloc (.cells #[.int .i64 i] 3)).alloc (.cells #[.slice none 0 0] 24)).alloc (.cells #[.bool false] 4)).alloc (.cells #[.slice A xs.length cap] 27) = W0 := ⟨_, rfl⟩
  rw [hW0] at b0 b1 b2 b3 hB0 hsz ⊢
  clear hW0
  refine wpIn_rangeFunc_ownH hro h1 (gf := 30) (lb := #[.pointer (some ⟨w.heap.size + 1 + 1 + 1, 0, none⟩)]) rfl trivial (enters_of Try.func30 (by kernel_rfl) rfl)
    (each_stops Fence.wide (n - 1) trivial hro (by omega) (w.heap.size + 1 + 1 + 1) A cap xs As Cs _ _ ownNone hreach W0 (fun W hW => ⟨trivial, fun k _ h => h⟩) b3 (fun h => h)
      (fun ad e hp h => h) (hEC.below hB0)) (fun h k => EachKp.trans h k) (fun W l o o' _ hl hc _ => EachKp.put ownNone W l o o' hl hc) (Below.refl _ _) (fun _ => rfl)
    (fun pre W => ((∀ x ∈ pre, hitP xs i x = false) ∧ Boxed W w.heap.size 3 (.int .i64 i) ∧ Boxed W (w.heap.size + 1) 24 (.slice none 0 0) ∧ Boxed W (w.heap.size + 1 + 1) 4 (.bool false) ∧ Boxed W (w.heap.size + 1 + 1 + 1) 27 (.slice A xs.length cap)) ∧ Below w.heap.size w W)
    (fun c pre W => (c = .ret ∧ ∃ ini x, pre = ini ++ [x] ∧ (∀ y ∈ ini, hitP xs i y = false) ∧ hitP xs i x = true ∧ ∃ v, Boxed W (w.heap.size + 1) 24 v ∧ Boxed W (w.heap.size + 1 + 1) 4 (.bool true) ∧ Kd.R k46 46 W w.heap.size (fun _ => True) v (xs[x.1]'x.2).f1) ∧ Below w.heap.size w W)
    (OwnFrom.and (OwnFrom.and (ownFrom_pure _ _) (OwnFrom.and (Own.from (boxed_own _ _ _) _) (OwnFrom.and (Own.from (boxed_own _ _ _) _) (OwnFrom.and (Own.from (boxed_own _ _ _) _) (Own.from (boxed_own _ _ _) _))))) (ownFrom_below (Nat.le_refl _) (by omega)))
    (fun c => OwnFrom.and (fun s X Y row hs hg hr => by
        obtain ⟨h1, ini, x, h2, h3, h4, v, h5, h6, h7⟩ := hs
        exact ⟨h1, ini, x, h2, h3, h4, v, boxed_own _ 24 (fun (_ : Unit) => v) () X Y row h5 hg (fun r e => (hr r e).2), boxed_own _ 4 (fun (_ : Unit) => Value.bool true) () X Y row h6 hg (fun r e => (hr r e).2), R_turn h7 hg (fun r e => (hr r e).2)⟩) (ownFrom_below (Nat.le_refl _) (by omega)))
    ⟨⟨by simp, b0, b1, b2, b3⟩, hB0⟩
    (fun x a' W => ∃ Bx, w.heap.size + 1 + 1 + 1 < Bx ∧ W.heap[Bx]? = some (.cells #[.int .i64 (xs[x.1]'x.2).f0, .slice (As x.1) (xs[x.1]'x.2).f1.length (Cs x.1)] 34 (0, 0)) ∧ a' = { tmps := #[.slice A xs.length cap, .int .i64 i, undef, .pointer (some ⟨w.heap.size, 0, none⟩), .pointer (some ⟨w.heap.size + 1, 0, none⟩), .pointer (some ⟨w.heap.size + 1 + 1, 0, none⟩), .int .i64 (atP xs x.1), .pointer (some ⟨Bx, 0, none⟩), .slice A xs.length cap, .func (.func 30) #[] #[.pointer (some ⟨w.heap.size + 1 + 1 + 1, 0, none⟩)], .int .i64 (atP xs x.1), .agg #[.int .i64 (xs[x.1]'x.2).f0, .slice (As x.1) (xs[x.1]'x.2).f1.length (Cs x.1)], undef, undef, undef, undef, undef, undef, undef, undef, undef, undef, undef, undef, undef, undef], defers := [] })
    (fun x a' _ X Y row hs hg hr => by
      obtain ⟨Bx, h1, h2, h3⟩ := hs
      refine ⟨Bx, h1, (hg.block Bx (Array.getElem?_eq_some_iff.1 h2).1 (fun e => ?_)).trans h2, h3⟩
      obtain ⟨_, o, ho, hc⟩ := hr Bx e.symm
      rw [h2] at ho; cases ho; simp [Obj.isCells] at hc)
    ?assign ?body ?done ?stop
  case assign =>
    rintro l pre x W K ⟨⟨hp, c0, c1, c2, c3⟩, hB1⟩ hK
    simp only [encB]
    gi_wp2
    exact hK _ _ ((KeepsOthers.alloc _ _).from _) (EachKp.grow ownNone (World.grownBy_alloc _ _ none)) ⟨⟨hp, c0.alloc _, c1.alloc _, c2.alloc _, c3.alloc _⟩, hB1.alloc hB1.size _⟩ ⟨W.heap.size, c3.lt, World.alloc_heap_new W _, rfl⟩
  case body =>
    rintro l pre x a' W hl ⟨r, hr⟩ ⟨⟨hp, c0, c1, c2, c3⟩, hB1⟩ ⟨Bx, hBx, bX, rfl⟩ hlt
    have cI := c0.cell
    have h1' : 1 ≤ n - 1 - 1 := by omega
    have cX : W.cell? ⟨Bx, 0, none⟩ = some (.int .i64 (xs[x.1]'x.2).f0) := by simp [World.cell?, bX]
    have cY : W.cell? ⟨Bx, 1, none⟩ = some (.slice (As x.1) (xs[x.1]'x.2).f1.length (Cs x.1)) := by simp [World.cell?, bX]
    have hd : xs.getD x.1 z34 = xs[x.1]'x.2 := by simp
    have hset := hin x.1 x.2
    rw [hd] at hset
    by_cases ha : atP xs x.1 ≤ i
    · have ha0 : decide (atP xs x.1 ≤ i) = true := decide_eq_true ha
      by_cases hb : i < wrap64 (atP xs x.1 + (xs[x.1]'x.2).f0)
      · have hb0 : decide (i < wrap64 (atP xs x.1 + (xs[x.1]'x.2).f0)) = true := decide_eq_true hb
        have hCl := api_Attr_26.calls (As x.1) (Cs x.1) (xs[x.1]'x.2).f1 (xs[x.1]'x.2).f1 W (Kd.C_below hset.2 hB1) hset.1 (by simp [api_Attr_26.f, hsets _ (List.getElem_mem x.2)])
        gi_wp2_with (refine ⟨trivial, ?_⟩; gi_at_call 26; refine (CallsIn.inRound l (callsIn_wide.2 hCl)).mono ?_; rintro e W2 ⟨v, rfl, hv, hb2⟩; obtain ⟨Ao, co, rfl⟩ := Kd.R_slice hv; have d1 : Boxed W2 (w.heap.size + 1) 24 (.slice none 0 0) := (hb2.block _ c1.lt).trans c1; have d2 : Boxed W2 (w.heap.size + 1 + 1) 4 (.bool false) := (hb2.block _ c2.lt).trans c2; have e1 := d1.cell; have e2 := d2.cell; have f1 := d1.frozen; have f2 := d2.frozen)
        have hbW := hB1.trans (hb2.mono hB1.size)
        have hv' := Kd.R_lower (Kd.R_mono (ok' := fun _ => True) (Kd.R_far (p := ⟨w.heap.size + 1 + 1, 0, none⟩) (Kd.R_far (p := ⟨w.heap.size + 1, 0, none⟩) (Kd.R_bound hv) (fun k hk => by have h_ := c1.lt; have h2_ := hk.2.1; show k ≠ w.heap.size + 1; omega) (.slice Ao (xs[x.1]'x.2).f1.length co)) (fun k hk => by have h_ := c2.lt; have h2_ := hk.2.1; show k ≠ w.heap.size + 1 + 1; omega) (.bool true)) (fun _ _ => trivial)) hB1.size
        refine ⟨(((KeepsFrom.of_below hb2).trans ((KeepsOthers.setCell _ _ _).from _)).trans ((KeepsOthers.setCell _ _ _).from _)), ⟨rfl, pre, x, rfl, hp, by simp [hitP, ha, hb], .slice Ao (xs[x.1]'x.2).f1.length co, (d1.set _).other (by omega) _, (d2.other (by omega) _).set _, hv'⟩, (hbW.setCell (p := ⟨w.heap.size + 1, 0, none⟩) (by simp) _).setCell (p := ⟨w.heap.size + 1 + 1, 0, none⟩) (by simp; omega) _⟩
      · have hb0 : decide (i < wrap64 (atP xs x.1 + (xs[x.1]'x.2).f0)) = false := decide_eq_false hb
        gi_wp2
        exact ⟨KeepsFrom.refl _ _, EachKp.refl' _, ⟨fun y hy => (List.mem_append.1 hy).elim (hp y) (fun e => by simp at e; subst e; simp only [hitP, hb0, Bool.and_false]), c0, c1, c2, c3⟩, hB1⟩
    · have ha0 : decide (atP xs x.1 ≤ i) = false := decide_eq_false ha
      gi_wp2
      exact ⟨KeepsFrom.refl _ _, EachKp.refl' _, ⟨fun y hy => (List.mem_append.1 hy).elim (hp y) (fun e => by simp at e; subst e; simp only [hitP, ha0, Bool.false_and]), c0, c1, c2, c3⟩, hB1⟩
  case done =>
    rintro D zs W hD rfl ⟨⟨hp, c0, c1, c2, c3⟩, hB1⟩ hK
    have f1 := c1.frozen
    have f2 := c2.frozen
    have g1 := c1.cell
    have g2 := c2.cell
    gi_wp2
    have k1 := (c1.set (.slice none 0 0)).other (B' := w.heap.size + 1 + 1) (by omega) (.bool false)
    have k2 := (c2.other (B' := w.heap.size + 1) (by omega) (.slice none 0 0)).set (.bool false)
    have hK' := (KeepsOthers.setCell (W.setCell ⟨w.heap.size + 1, 0, none⟩ (.slice none 0 0)) ⟨w.heap.size + 1 + 1, 0, none⟩ (.bool false)).same D _ ((KeepsOthers.setCell W ⟨w.heap.size + 1, 0, none⟩ (.slice none 0 0)).same D _ hK rfl) rfl
    refine ⟨by simp, .inl ⟨_, _, rfl, run_takeDeferred hK', ?_⟩⟩
    have y1 := cell_kept k1.cell (grownBy_putObj' _ D (.deferred none)) (fun r e => by cases e; exact ⟨_, hK', rfl⟩)
    have y2 := cell_kept k2.cell (grownBy_putObj' _ D (.deferred none)) (fun r e => by cases e; exact ⟨_, hK', rfl⟩)
    have hnf : (List.finRange xs.length).find? (hitP xs i) = none := List.find?_eq_none.2 (fun x hx => by simp [hp x hx])
    rw [hnf]
    refine ⟨.tuple #[.slice none 0 0, .bool false], ?_, .slice none 0 0, rfl, Kd.R_nil _ _ _ _ _, ((hB1.setCell (p := ⟨w.heap.size + 1, 0, none⟩) (by simp) _).setCell (p := ⟨w.heap.size + 1 + 1, 0, none⟩) (by simp; omega) _).trans (belowK_b (w := w) (Nat.le_refl _) _ D _ _ (by omega) hK' rfl rfl)⟩
    simp [results, Try.f14, go_sem, y1, y2]
  case stop =>
    rintro D c pre W hD ⟨k, hk, rfl⟩ ⟨⟨rfl, ini, x, h2, h3, h4, v, h5, h6, h7⟩, hB1⟩ hK
    have g1 := h5.cell
    have g2 := h6.cell
    gi_wp2
    refine ⟨by simp, .inl ⟨_, _, rfl, run_takeDeferred hK, ?_⟩⟩
    have y1 := cell_kept g1 (grownBy_putObj' _ D (.deferred none)) (fun r e => by cases e; exact ⟨_, hK, rfl⟩)
    have y2 := cell_kept g2 (grownBy_putObj' _ D (.deferred none)) (fun r e => by cases e; exact ⟨_, hK, rfl⟩)
    have hsf : (List.finRange xs.length).find? (hitP xs i) = some x := by
      rw [List.find?_eq_some_iff_append]
      refine ⟨h4, ini, (List.finRange xs.length).drop (k + 1), ?_, fun y hy => by simp [h3 y hy]⟩
      have := List.take_append_drop (k + 1) (List.finRange xs.length)
      rw [h2] at this
      rw [List.append_assoc, List.singleton_append] at this
      exact this.symm
    rw [hsf]
    refine ⟨.tuple #[v, .bool true], ?_, v, rfl, R_turn h7 (grownBy_putObj' _ D (.deferred none)) (fun r e => by cases e; exact ⟨_, hK, rfl⟩), hB1.trans (belowK_b (w := w) (Nat.le_refl _) W D _ _ (by omega) hK rfl rfl)⟩
    simp [results, Try.f14, go_sem, y1, y2]
def blocks_At.f (l0 : List (S34)) (a1 : Int) : Option ((List (S46)) × Bool) :=
  if l0.length * 32 ≤ 140737488351232 ∧ ∀ b ∈ l0, b.f1.length < 2932031007402 then
    some (((List.finRange l0.length).find? (hitP l0 a1)).elim [] (fun x => (l0[x.1]'x.2).f1), ((List.finRange l0.length).find? (hitP l0 a1)).isSome) else none
theorem blocks_At.calls (A0 : Option Addr) (c0 : Nat) (l0 : List (S34)) (a1 : Int) (r1 : List (S46)) (r2 : Bool) (w : World) (hr0 : Kd.C k34 w A0 l0.length l0) (hc0 : l0.length ≤ c0) (h : blocks_At.f l0 a1 = some (r1, r2)) :
    Calls Try.prog 14 #[.slice A0 l0.length c0, .int .i64 a1] w fun e w' => ∃ v0_ : Value, e = .returned (.tuple #[v0_, .bool r2]) ∧ Kd.R k46 46 w' w.heap.size (fun _ => True) v0_ r1 ∧ Below w.heap.size w w' := by
  unfold blocks_At.f at h
  split at h
  · rename_i hc
    cases h
    exact callsIn_wide.1 (At_in 6 (by omega) A0 c0 l0 a1 hc.1 hc.2 w hr0)
  · cases h
end Go.Proofs.Ytpnoeggnniagfaa.P
namespace Go.Proofs.Ytpnoeggnniagfaa.P
open Go.RowKit Go.Proofs.YtpnoeggnniagfaaW.PrintWords Go.Proofs.YtpnoeggnniagfaaW.PrintLast Go.Proofs.YtpnoeggnniagfaaW.PrintMore
set_option linter.unusedVariables false
def nrm (x : S46) : Int × Int × Int × Int × List UInt8 := (x.f0, x.f1.f0, x.f1.f1, x.f1.f2, x.f1.f3.toList)
def keyL (a : List S46) : List (Int × Int × Int × Int × List UInt8) := a.map nrm
theorem keyL_length (a : List S46) : (keyL a).length = a.length := by simp [keyL]
theorem differs_iff (x y : S46) : ((!(x.f0 == y.f0) || ((!(x.f1.f0 == y.f1.f0)) || (!(x.f1.f1 == y.f1.f1)) || (!(x.f1.f2 == y.f1.f2)) || (!(x.f1.f3.toList == y.f1.f3.toList)))) = true) ↔ nrm x ≠ nrm y := by
  simp only [nrm, ne_eq, Prod.mk.injEq, Bool.or_eq_true, Bool.not_eq_true', beq_eq_false_iff_ne, ne_eq]
  constructor
  · rintro (h | ((h | h) | h) | h) ⟨a, b, c, d, e⟩ <;> exact h (by assumption)
  · intro h
    by_cases h1 : x.f0 = y.f0
    · by_cases h2 : x.f1.f0 = y.f1.f0
      · by_cases h3 : x.f1.f1 = y.f1.f1
        · by_cases h4 : x.f1.f2 = y.f1.f2
          · right; right; intro h5; exact h ⟨h1, h2, h3, h4, h5⟩
          · right; left; right; exact h4
        · right; left; left; right; exact h3
      · right; left; left; left; exact h2
    · left; exact h1
theorem rd46_get (a : List S46) (i : Nat) (h : i < a.length) : rd_T46 a (i : Int) = a[i] := by simp [rd_T46, h]
theorem wrap64_at (n : Int) (h : -9223372036854775808 ≤ n ∧ n ≤ 9223372036854775807) : wrap64 n = n := by unfold wrap64; omega
theorem wrap64_succ (i : Nat) (h : (i : Int) < 4611686018427387904) : wrap64 ((i : Int) + 1) = ((i + 1 : Nat) : Int) := by
  have : wrap64 ((i : Int) + 1) = (i : Int) + 1 := wrap64_at _ (by omega)
  rw [this]; omega
theorem keyL_drop (a b : List S46) (i : Nat) (ha : i < a.length) (hb : i < b.length) : (keyL (a.drop i) = keyL (b.drop i)) ↔ (nrm a[i] = nrm b[i] ∧ keyL (a.drop (i + 1)) = keyL (b.drop (i + 1))) := by
  rw [List.drop_eq_getElem_cons ha, List.drop_eq_getElem_cons hb]
  simp only [keyL, List.map_cons, List.cons.injEq]
theorem api31_loop (a b : List S46) (hl : a.length = b.length) (hs : a.length < 2932031007402) : ∀ (k i : Nat), i ≤ a.length → a.length - i < k → api_Attr_31.l0 k a b (a.length : Int) (i : Int) = some (decide (keyL (a.drop i) = keyL (b.drop i)))
  | 0, i, _, hk => by omega
  | k + 1, i, hi, hk => by
    unfold api_Attr_31.l0
    by_cases h : i < a.length
    · rw [if_pos (by omega), if_pos (by omega), if_pos (by omega), if_pos (by omega), rd46_get a i h, rd46_get b i (by omega)]
      have ih := api31_loop a b hl hs k (i + 1) (by omega) (by omega)
      by_cases hd : nrm a[i] = nrm b[i]
      · rw [if_neg (by intro hc; exact (differs_iff _ _).1 (by simpa only [Bool.or_assoc] using hc) hd), wrap64_succ i (by omega), ih]
        congr 1
        rw [decide_eq_decide, keyL_drop a b i h (by omega)]
        exact ⟨fun h => ⟨hd, h⟩, fun h => h.2⟩
      · rw [if_pos (by simpa only [Bool.or_assoc] using (differs_iff _ _).2 hd)]
        congr 1
        rw [eq_comm, decide_eq_false_iff_not, keyL_drop a b i h (by omega)]
        exact fun h => hd h.1
    · rw [if_neg (by omega)]
      have e1 : a.drop i = [] := List.drop_eq_nil_of_le (by omega)
      have e2 : b.drop i = [] := List.drop_eq_nil_of_le (by omega)
      rw [e1, e2]; simp
theorem same_eq (k : Nat) (a b : List S46) (hs : a.length < 2932031007402) (hk : a.length < k) : attrs_Same.f k a b = some (decide (keyL a = keyL b)) := by
  unfold attrs_Same.f api_Attr_31.f
  by_cases hl : a.length = b.length
  · rw [if_pos (by omega)]
    have := api31_loop a b hl hs k 0 (by omega) (by omega)
    simp only [List.drop_zero] at this
    rw [show ((0 : Nat) : Int) = 0 from rfl] at this
    rw [this]; rfl
  · rw [if_neg (by omega)]
    have : keyL a ≠ keyL b := fun h => hl (by rw [← keyL_length a, ← keyL_length b, h])
    simp [this]
/-- so many places more -/
def addP (out : List S34) (n : Int) (set : List S46) : List S34 :=
  if n ≤ 0 then out else
    match out.getLast? with
    | some b => if keyL b.f1 = keyL set then out.dropLast ++ [⟨wrap64 (b.f0 + n), b.f1⟩] else out ++ [⟨n, set⟩]
    | none => out ++ [⟨n, set⟩]
theorem addP_length (out : List S34) (n : Int) (set : List S46) : (addP out n set).length ≤ out.length + 1 := by
  unfold addP
  split
  · omega
  · split
    · rename_i h
      split
      · simp only [List.length_append, List.length_dropLast, List.length_singleton]; omega
      · simp
    · simp
theorem addP_sets {P : List S46 → Prop} (out : List S34) (n : Int) (set : List S46) (ho : ∀ b ∈ out, P b.f1) (hs : P set) : ∀ b ∈ addP out n set, P b.f1 := by
  unfold addP
  split
  · exact ho
  · split
    · rename_i b h
      split
      · intro c hc
        rcases List.mem_append.1 hc with h1 | h1
        · exact ho c (List.dropLast_subset _ h1)
        · simp at h1; subst h1; exact ho b (List.mem_of_getLast? h)
      · intro c hc
        rcases List.mem_append.1 hc with h1 | h1
        · exact ho c h1
        · simp at h1; subst h1; exact hs
    · intro c hc
      rcases List.mem_append.1 hc with h1 | h1
      · exact ho c h1
      · simp at h1; subst h1; exact hs
theorem copy_eq (a : List S46) (h : a.length < 2932031007402) : attrs_Copy.f a = some a := by
  unfold attrs_Copy.f api_Attr_26.f
  simp [h]
theorem set_last (out : List S34) (x : S34) (h : out ≠ []) : out.set (out.length - 1) x = out.dropLast ++ [x] := by
  conv => lhs; rw [← List.dropLast_concat_getLast h]
  have hp := List.length_pos_iff.2 h
  rw [List.set_append_right _ _ (by simp)]
  simp
theorem add_eq (k : Nat) (out : List S34) (n : Int) (set : List S46) (hout : out.length < 4398046511104) (hset : set.length < 2932031007402) (hk : ∀ b ∈ out, b.f1.length < k ∧ b.f1.length < 2932031007402) :
    blocks_add.f k out n set = some (addP out n set) := by
  unfold blocks_add.f addP
  by_cases hn : n ≤ 0
  · rw [if_pos hn, if_pos hn]
  · rw [if_neg hn, if_neg hn, copy_eq set hset]
    have hw : wrap64 ((out.length : Int) - 1) = (out.length : Int) - 1 := wrap64_at _ (by omega)
    rw [hw]
    by_cases he : out = []
    · subst he
      simp
    · have hp := List.length_pos_iff.2 he
      have hgl : out.getLast? = some (out.getLast he) := List.getLast?_eq_some_getLast he
      have hrd : rd_T34 out ((out.length : Int) - 1) = out.getLast he := by
        unfold rd_T34
        rw [show ((out.length : Int) - 1).toNat = out.length - 1 by omega, List.getLast_eq_getElem]
        simp [show out.length - 1 < out.length by omega]
      rw [if_pos (by omega), if_pos (by omega), if_pos (by omega), hrd, hgl]
      have hb := hk _ (List.getLast_mem he)
      rw [same_eq k _ set hb.2 hb.1]
      simp only [Option.bind_some]
      by_cases hkey : keyL (out.getLast he).f1 = keyL set
      · rw [if_pos (by simpa using hkey), if_pos hkey, show ((out.length : Int) - 1).toNat = out.length - 1 by omega, set_last _ _ he]
      · rw [if_neg (by simpa using hkey), if_neg hkey, if_pos hout]
end Go.Proofs.Ytpnoeggnniagfaa.P
namespace Go.Proofs.Ytpnoeggnniagfaa.P
open Go.RowKit Go.Shelf Go.Proofs.YtpnoeggnniagfaaW.PrintWords Go.Proofs.YtpnoeggnniagfaaW.PrintLast Go.Proofs.YtpnoeggnniagfaaW.PrintMore
set_option linter.unusedVariables false
set_option linter.unusedSimpArgs false
attribute [local go_sem] Oper.semAt_some
attribute [local go_sem] max2_int min2_int max_two min_two max_three min_three max_four min_four
def cutP (xs : List S34) (i j : Int) (pre : List (Fin xs.length)) : List S34 :=
  pre.foldl (fun out x => addP out (wrap64 (mn (wrap64 (atP xs x.1 + (xs[x.1]'x.2).f0)) j - mx (atP xs x.1) i)) (xs[x.1]'x.2).f1) []
theorem cutP_snoc (xs : List S34) (i j : Int) (pre : List (Fin xs.length)) (x : Fin xs.length) : cutP xs i j (pre ++ [x]) = addP (cutP xs i j pre) (wrap64 (mn (wrap64 (atP xs x.1 + (xs[x.1]'x.2).f0)) j - mx (atP xs x.1) i)) (xs[x.1]'x.2).f1 := by
  simp [cutP]
theorem foldl_len {α : Type} (f : List S34 → α → List S34) (hf : ∀ o x, (f o x).length ≤ o.length + 1) : ∀ (l : List α) (o : List S34), (l.foldl f o).length ≤ o.length + l.length
  | [], o => by simp
  | x :: l, o => by
    have h1 := foldl_len f hf l (f o x)
    have h2 := hf o x
    simp only [List.foldl_cons, List.length_cons]; omega
theorem foldl_all {α : Type} (P : List S46 → Prop) (f : List S34 → α → List S34) (hf : ∀ o x, (∀ b ∈ o, P b.f1) → ∀ b ∈ f o x, P b.f1) : ∀ (l : List α) (o : List S34), (∀ b ∈ o, P b.f1) → ∀ b ∈ l.foldl f o, P b.f1
  | [], o, h => by simpa using h
  | x :: l, o, h => foldl_all P f hf l (f o x) (hf o x h)
theorem cutP_length (xs : List S34) (i j : Int) (pre : List (Fin xs.length)) : (cutP xs i j pre).length ≤ pre.length := by
  have := foldl_len (fun (out : List S34) (x : Fin xs.length) => addP out (wrap64 (mn (wrap64 (atP xs x.1 + (xs[x.1]'x.2).f0)) j - mx (atP xs x.1) i)) (xs[x.1]'x.2).f1) (fun o x => addP_length _ _ _) pre []
  simpa [cutP] using this
theorem cutP_sets (xs : List S34) (P : List S46 → Prop) (hP : ∀ b ∈ xs, P b.f1) (i j : Int) (pre : List (Fin xs.length)) : ∀ b ∈ cutP xs i j pre, P b.f1 :=
  foldl_all P (fun (out : List S34) (x : Fin xs.length) => addP out (wrap64 (mn (wrap64 (atP xs x.1 + (xs[x.1]'x.2).f0)) j - mx (atP xs x.1) i)) (xs[x.1]'x.2).f1) (fun o x ho => addP_sets _ _ _ ho (hP _ (List.getElem_mem x.2))) pre [] (by simp)
def GOut (ob : Nat) (W : World) : Prop := ∃ v, Boxed W ob 27 v ∧ ∀ k, v.ownBlock = some k → k < W.heap.size
def OOut (ob : Nat) (W : World) (k : Nat) : Prop := k = ob ∨ ∃ v, Boxed W ob 27 v ∧ v.ownBlock = some k
theorem boxed_same {W W' : World} {B t : Nat} {v v' : Value} (h : Boxed W B t v) (h' : Boxed W' B t v') (he : W'.heap[B]? = W.heap[B]?) : v' = v := by
  unfold Boxed at h h'
  rw [he, h] at h'
  cases h'; rfl
theorem ownOut (ob : Nat) : EachOwn (GOut ob) (OOut ob) where
  lt := fun ⟨v, hb, hl⟩ h => by
    rcases h with rfl | ⟨v', hb', hk⟩
    · exact hb.lt
    · rw [boxed_same hb hb' rfl] at hk; exact hl _ hk
  grow := fun {A B} ⟨v, hb, hl⟩ hg => by
    have he := hg.block ob hb.lt (by simp)
    refine ⟨⟨v, he.trans hb, fun k hk => Nat.lt_of_lt_of_le (hl k hk) hg.size⟩, fun k h => ?_⟩
    rcases h with rfl | ⟨v', hb', hk⟩
    · exact .inl rfl
    · rw [boxed_same hb hb' he] at hk; exact .inr ⟨v, hb, hk⟩
  put := fun {W l o} o' ⟨v, hb, hl⟩ hlo hc => by
    have hg := grownBy_putObj' W l o'
    have he := hg.block ob hb.lt (fun e => by cases e; rw [show W.heap[ob]? = _ from hb] at hlo; cases hlo; simp [Obj.isCells] at hc)
    refine ⟨⟨v, he.trans hb, fun k hk => Nat.lt_of_lt_of_le (hl k hk) hg.size⟩, fun k h => ?_⟩
    rcases h with rfl | ⟨v', hb', hk⟩
    · exact .inl rfl
    · rw [boxed_same hb hb' he] at hk; exact .inr ⟨v, hb, hk⟩
theorem S_turn {α : Type} {d : Kd α} {e base : Nat} {ok : Nat → Prop} {v : Value} {xs : List α} {W W' : World} {row : Option Nat} (h : Kd.S d e W base ok v xs) (hg : W.grownBy W' row) (hr : ∀ r, row = some r → ∃ o : Obj, W.heap[r]? = some o ∧ o.isCells = false) : Kd.S d e W' base ok v xs :=
  Kd.S_mono (Kd.S_grown (Kd.S_bound h) hg (fun k hk e => by
    obtain ⟨_, _, _, q, _, cells, hc⟩ := hk
    obtain ⟨o, ho, hn⟩ := hr k e.symm
    rw [hc] at ho; cases ho; simp [Obj.isCells] at hn)) (fun _ hk => hk.1)
/-- A round's own steps: add keeps what is not the row's block, then the row's box is written. -/
theorem cut_keeps {ob : Nat} {W W2 : World} {v v1 : Value} (hb : Boxed W ob 27 v) (hvl : ∀ k, v.ownBlock = some k → k < W.heap.size) (hv1 : ∀ k, v1.ownBlock = some k → k < W2.heap.size) (hobv : ∀ k, v.ownBlock = some k → k ≠ ob)
    (hK : KeptOut v.ownBlock W W2) (hat : v1.ownBlock = v.ownBlock ∨ ∃ b, v1.ownBlock = some b ∧ W.heap.size ≤ b) : EachKp (GOut ob) (OOut ob) W (W2.setCell ⟨ob, 0, none⟩ v1) := by
  intro g
  have hg := grownBy_setCell' W2 ob v1
  have hb2 : Boxed W2 ob 27 v := (hK.2 ob hb.lt (fun e => hobv ob e.symm rfl)).trans hb
  have hb3 := hb2.set v1
  refine ⟨⟨v1, hb3, fun k hk => Nat.lt_of_lt_of_le (hv1 k hk) hg.size⟩, Nat.le_trans hK.1 hg.size, fun k cs t f hk ho => ?_, fun k hk => ?_⟩
  · have hkl := (Array.getElem?_eq_some_iff.1 hk).1
    have h1 := hK.2 k hkl (fun e => ho (.inr ⟨v, hb, e.symm⟩))
    exact ((hg.block k (Nat.lt_of_lt_of_le hkl hK.1) (fun e => ho (.inl (by cases e; rfl)))).trans h1).trans hk
  · rcases hk with rfl | ⟨v', hb', hk⟩
    · exact .inl (.inl rfl)
    · rw [boxed_same hb3 hb' rfl] at hk
      rcases hat with h | ⟨b, h1, h2⟩
      · exact .inl (.inr ⟨v, hb, by rw [← h]; exact hk⟩)
      · rw [h1] at hk; cases hk; exact .inr h2
theorem cut_from {B ob : Nat} {W W2 : World} {v v1 : Value} (hty : ∀ k, v.ownBlock = some k → ∃ cells, W.heap[k]? = some (.cells cells 34 (0, 0))) (hK : KeptOut v.ownBlock W W2) : KeepsFrom B W (W2.setCell ⟨ob, 0, none⟩ v1) :=
  (KeepsFrom.trans (Y := W2) ⟨hK.1, fun k o _ hk ho => (hK.2 k (Array.getElem?_eq_some_iff.1 hk).1 (fun e => by
    obtain ⟨cells, hc⟩ := hty k e.symm
    rw [hc] at hk; cases hk; simp [Obj.isCells] at ho)).trans hk⟩ ((KeepsOthers.setCell _ _ _).from _))
set_option maxRecDepth 100000 in
set_option maxHeartbeats 8000000 in
theorem Cut_in (n : Nat) (hn : 6 ≤ n) (A : Option Addr) (cap : Nat) (xs : List S34) (i j : Int) (hreach : xs.length * 32 ≤ 140737488351232) (w : World) (hC : Kd.C k34 w A xs.length xs) (hcap : xs.length ≤ cap) (hsets : ∀ b ∈ xs, b.f1.length < 2932031007402) :
    CallsIn Fence.wide n Try.prog 18 #[.slice A xs.length cap, .int .i64 i, .int .i64 j] w fun e W' => ∃ v0_ : Value, e = .returned v0_ ∧ Kd.S k34 34 W' w.heap.size (fun _ => True) v0_ (if mn (mx j 0) (atP xs xs.length) ≤ mx i 0 then [] else cutP xs (mx i 0) (mn (mx j 0) (atP xs xs.length)) (List.finRange xs.length)) ∧ Below w.heap.size w W' := by
  have h1 : 1 ≤ n := by omega
  have hro : Fence.wide.round = none := rfl
  obtain ⟨As, Cs, hEC, hin⟩ := eachCells_of hC
  refine callsIn_of_wp_marks Try.func18 rfl trivial ?_ hro
  simp only [Try.ntmps18, List.size_toArray, List.length_cons, List.length_nil, Nat.reduceAdd, Nat.reduceSub, Array.replicate_succ, Array.replicate_zero, List.push_toArray, List.append_toArray, List.nil_append, List.cons_append]
  have b0 := ((Boxed.new w 3 (.int .i64 i)).alloc (.cells #[.int .i64 j] 3)).alloc (.cells #[.slice none 0 0] 27)
  have b1 := (Boxed.new (w.alloc (.cells #[.int .i64 i] 3)) 3 (.int .i64 j)).alloc (.cells #[.slice none 0 0] 27)
  have b2 := (Boxed.new ((w.alloc (.cells #[.int .i64 i] 3)).alloc (.cells #[.int .i64 j] 3)) 27 (.slice none 0 0))
  simp only [World.size_alloc] at b1 b2
  gi_wp2
  rename_i K0 hK0
  have hsz : (((w.alloc (.cells #[.int .i64 i] 3)).alloc (.cells #[.int .i64 j] 3)).alloc (.cells #[.slice none 0 0] 27)).heap.size = w.heap.size + 3 := by simp
  have hB0 : Below w.heap.size w (((w.alloc (.cells #[.int .i64 i] 3)).alloc (.cells #[.int .i64 j] 3)).alloc (.cells #[.slice none 0 0] 27)) := (((Below.refl _ w).alloc (Nat.le_refl _) _).alloc (by simp) _).alloc (by simp; omega) _
  obtain ⟨W0, hW0⟩ : ∃ W0, ((w.alloc (.cells #[.int .i64 i] 3)).alloc (.cells #[.int .i64 j] 3)).alloc (.cells #[.slice none 0 0] 27) = W0 := ⟨_, rfl⟩
  rw [hW0] at b0 b1 b2 hB0 hsz ⊢
  clear hW0
  have hrest : ∀ W1, Boxed W1 w.heap.size 3 (.int .i64 (mx i 0)) → Boxed W1 (w.heap.size + 1) 3 (.int .i64 (mn (mx j 0) (atP xs xs.length))) → Boxed W1 (w.heap.size + 1 + 1) 27 (.slice none 0 0) → Below w.heap.size w W1 →
      K0 { tmps := #[.slice A xs.length cap, .int .i64 i, .int .i64 j, undef, .pointer (some ⟨w.heap.size, 0, none⟩), .pointer (some ⟨w.heap.size + 1, 0, none⟩), .slice none 0 0, .pointer (some ⟨w.heap.size + 1 + 1, 0, none⟩), undef, undef, .int .i64 i, .int .i64 (mx i 0), .int .i64 j, .int .i64 (mx j 0), .slice A xs.length cap, .int .i64 (atP xs xs.length), .int .i64 (mn (mx j 0) (atP xs xs.length)), undef, undef, undef, undef, undef, undef, undef, undef, undef, undef, undef, undef, undef, undef, undef, undef, undef, undef, undef, undef, undef, undef], defers := [] } W1 := by
    intro W1 c0 c1 c2 hB1
    refine hK0 _ _ ?_
    obtain ⟨I', hI'⟩ : ∃ I', mx i 0 = I' := ⟨_, rfl⟩
    obtain ⟨J', hJ'⟩ : ∃ J', mn (mx j 0) (atP xs xs.length) = J' := ⟨_, rfl⟩
    rw [hI'] at c0 ⊢
    rw [hJ'] at c1 ⊢
    gi_wp2_with ((refine ⟨trivial, ?_⟩; gi_at_call 25; refine (each_in Fence.wide (n - 1) trivial hro _ _ _ _).mono ?_; rintro e w' ⟨rfl, rfl⟩))
    have c3 := Boxed.new W1 27 (.slice A xs.length cap)
    have hsz1 := hB1.size
    have hob := c2.lt
    refine wpIn_rangeFunc_ownH hro h1 (gf := 30) (lb := #[.pointer (some ⟨W1.heap.size, 0, none⟩)]) rfl trivial (enters_of Try.func30 (by kernel_rfl) rfl)
      (each_stops Fence.wide (n - 1) trivial hro (by omega) W1.heap.size A cap xs As Cs _ _ (ownOut (w.heap.size + 1 + 1)) hreach (W1.alloc (.cells #[.slice A xs.length cap] 27)) (fun W hW => ?hG) c3 ?hOs
        ?hOa ((hEC.below hB1).below ((Below.refl _ W1).alloc (Nat.le_refl _) _))) (fun h k => EachKp.trans h k) (fun W l o o' _ hl hc _ => EachKp.put (ownOut (w.heap.size + 1 + 1)) W l o o' hl hc) (Below.refl _ _) (fun _ => rfl)
      (fun pre W => (W1.heap.size < W.heap.size ∧ Boxed W w.heap.size 3 (.int .i64 I') ∧ Boxed W (w.heap.size + 1) 3 (.int .i64 J') ∧ ∃ v, Boxed W (w.heap.size + 1 + 1) 27 v ∧ (J' ≤ I' → pre = [] ∧ v = .slice none 0 0) ∧ Kd.S k34 34 W w.heap.size (fun _ => True) v (cutP xs I' J' pre)) ∧ Below w.heap.size w W)
      (fun c pre W => (c = .exit 0 ∧ J' ≤ I' ∧ Boxed W (w.heap.size + 1 + 1) 27 (.slice none 0 0)) ∧ Below w.heap.size w W)
      ?hI ?hIx
      ⟨⟨by simp, c0.alloc _, c1.alloc _, .slice none 0 0, c2.alloc _, fun _ => ⟨rfl, rfl⟩, Kd.S_nil _ _ _ _ _⟩, hB1.alloc hsz1 _⟩
      (fun x a' W => ∃ Bx, W1.heap.size < Bx ∧ W.heap[Bx]? = some (.cells #[.int .i64 (xs[x.1]'x.2).f0, .slice (As x.1) (xs[x.1]'x.2).f1.length (Cs x.1)] 34 (0, 0)) ∧ a' = { tmps := #[.slice A xs.length cap, .int .i64 i, .int .i64 j, undef, .pointer (some ⟨w.heap.size, 0, none⟩), .pointer (some ⟨w.heap.size + 1, 0, none⟩), .slice none 0 0, .pointer (some ⟨w.heap.size + 1 + 1, 0, none⟩), .int .i64 (atP xs x.1), .pointer (some ⟨Bx, 0, none⟩), .int .i64 i, .int .i64 I', .int .i64 j, .int .i64 (mx j 0), .slice A xs.length cap, .int .i64 (atP xs xs.length), .int .i64 J', .slice A xs.length cap, .func (.func 30) #[] #[.pointer (some ⟨W1.heap.size, 0, none⟩)], .int .i64 (atP xs x.1), .agg #[.int .i64 (xs[x.1]'x.2).f0, .slice (As x.1) (xs[x.1]'x.2).f1.length (Cs x.1)], undef, undef, undef, undef, undef, undef, undef, undef, undef, undef, undef, undef, undef, undef, undef, undef, undef, undef], defers := [] })
      ?hAx ?assign ?body ?done ?stop
    case hG =>
      have hWb := hW.block (w.heap.size + 1 + 1) (by simp; omega)
      have hb : Boxed W (w.heap.size + 1 + 1) 27 (.slice none 0 0) := hWb.trans (c2.alloc _)
      refine ⟨⟨_, hb, fun k hk => by simp [Value.ownBlock] at hk⟩, fun k _ h => ?_⟩
      rcases h with rfl | ⟨v', hb', hk⟩
      · exact .inl rfl
      · rw [boxed_same hb hb' rfl] at hk; simp [Value.ownBlock] at hk
    case hOs =>
      rintro (h | ⟨v', hb', hk⟩)
      · omega
      · rw [boxed_same (c2.alloc _) hb' rfl] at hk; simp [Value.ownBlock] at hk
    case hOa =>
      intro ad e hp
      rintro (h | ⟨v', hb', hk⟩)
      · obtain ⟨ad2, e2, x0, _⟩ := hEC 0 hp
        rw [e] at e2; cases e2
        have := World.block_lt_of_cell? w _ x0
        rw [add_block] at this; omega
      · rw [boxed_same (c2.alloc _) hb' rfl] at hk; simp [Value.ownBlock] at hk
    case hI =>
      refine OwnFrom.and (fun s X Y row hs hg hr => ?_) (ownFrom_below (Nat.le_refl _) (by simp; omega))
      obtain ⟨h1, h2, h3, v, h4, h6, h5⟩ := hs
      exact ⟨Nat.lt_of_lt_of_le h1 hg.size, boxed_own _ 3 (fun (_ : Unit) => Value.int .i64 I') () X Y row h2 hg (fun r e => (hr r e).2), boxed_own _ 3 (fun (_ : Unit) => Value.int .i64 J') () X Y row h3 hg (fun r e => (hr r e).2), v, boxed_own _ 27 (fun (_ : Unit) => v) () X Y row h4 hg (fun r e => (hr r e).2), h6, S_turn h5 hg (fun r e => (hr r e).2)⟩
    case hIx =>
      intro c
      refine OwnFrom.and (fun s X Y row hs hg hr => ?_) (ownFrom_below (Nat.le_refl _) (by simp; omega))
      obtain ⟨h1, h2, h3⟩ := hs
      exact ⟨h1, h2, boxed_own _ 27 (fun (_ : Unit) => Value.slice none 0 0) () X Y row h3 hg (fun r e => (hr r e).2)⟩
    case hAx =>
      rintro x a' _ X Y row hs hg hr
      obtain ⟨Bx, h1, h2, h3⟩ := hs
      refine ⟨Bx, h1, (hg.block Bx (Array.getElem?_eq_some_iff.1 h2).1 (fun e => ?_)).trans h2, h3⟩
      obtain ⟨_, o, ho, hc⟩ := hr Bx e.symm
      rw [h2] at ho; cases ho; simp [Obj.isCells] at hc
    case assign =>
      rintro l pre x W K ⟨⟨hp, d0, d1, v, d2, hq, hS⟩, hBW⟩ hK
      simp only [encB]
      gi_wp2
      exact hK _ _ ((KeepsOthers.alloc _ _).from _) (EachKp.grow (ownOut _) (World.grownBy_alloc _ _ none)) ⟨⟨by simp; omega, d0.alloc _, d1.alloc _, v, d2.alloc _, hq, Kd.S_alloc hS _⟩, hBW.alloc hBW.size _⟩ ⟨W.heap.size, hp, World.alloc_heap_new W _, rfl⟩
    case body =>
      rintro l pre x a' W hl ⟨r, hr⟩ ⟨⟨hp, d0, d1, v, d2, hq, hS⟩, hBW⟩ ⟨Bx, hBx, bX, rfl⟩ hlt
      have h1' : 1 ≤ n - 1 - 1 := by omega
      have e0 := d0.cell
      have e1 := d1.cell
      have e2 := d2.cell
      have f2 := d2.frozen
      have cX : W.cell? ⟨Bx, 0, none⟩ = some (.int .i64 (xs[x.1]'x.2).f0) := by simp [World.cell?, bX]
      have cY : W.cell? ⟨Bx, 1, none⟩ = some (.slice (As x.1) (xs[x.1]'x.2).f1.length (Cs x.1)) := by simp [World.cell?, bX]
      have hd : xs.getD x.1 z34 = xs[x.1]'x.2 := by simp
      have hset := hin x.1 x.2
      rw [hd] at hset
      by_cases hij : J' ≤ I'
      · have hij0 : decide (J' ≤ I') = true := decide_eq_true hij
        gi_wp2
        all_goals exact ⟨KeepsFrom.refl _ _, ⟨rfl, hij, by rw [← (hq hij).2]; exact d2⟩, hBW⟩
      · have hij0 : decide (J' ≤ I') = false := decide_eq_false hij
        obtain ⟨Ao, co, rfl⟩ := Kd.S_slice hS
        have hlen : (cutP xs I' J' pre).length < 4398046511104 := by have := cutP_length xs I' J' pre; omega
        have hadd := add_eq 2932031007402 (cutP xs I' J' pre) (wrap64 (mn (wrap64 (atP xs x.1 + (xs[x.1]'x.2).f0)) J' - mx (atP xs x.1) I')) (xs[x.1]'x.2).f1 hlen (hsets _ (List.getElem_mem x.2)) (fun b hb => by
          have := cutP_sets xs (fun s => s.length < 2932031007402) hsets I' J' pre b hb
          exact ⟨this, this⟩)
        have hcall := blocks_add.keeps 2932031007402 Ao co (cutP xs I' J' pre) _ (As x.1) (Cs x.1) (xs[x.1]'x.2).f1 _ w W W (KeptOut.refl _ _) hS hBW hset.2 hset.1 hadd
        gi_wp2_with (refine ⟨trivial, ?_⟩; gi_at_call 24; refine (CallsIn.inRound l (callsIn_wide.2 hcall)).mono ?_; rintro e W2 ⟨v1, rfl, hv1, hb2, hK2, hat2⟩; obtain ⟨A1, c1_, rfl⟩ := Kd.S_slice hv1; have d2' : Boxed W2 (w.heap.size + 1 + 1) 27 (.slice Ao (cutP xs I' J' pre).length co) := (hK2.2 _ d2.lt (fun e_ => by obtain ⟨cs_, hc_⟩ := Kd.S_typed hS _ e_.symm; rw [show W.heap[_]? = _ from d2] at hc_; cases hc_)).trans d2; have e2' := d2'.cell; have f2' := d2'.frozen)
        all_goals
          have hne : ∀ {k : Nat} {t : Nat} {u : Value}, Boxed W k t u → t ≠ 34 → ∀ m, (Value.slice Ao (cutP xs I' J' pre).length co).ownBlock = some m → m ≠ k := fun {k t u} hb ht m hm e_ => by
            obtain ⟨cs_, hc_⟩ := Kd.S_typed hS _ hm
            subst e_
            rw [show W.heap[m]? = _ from hb] at hc_; cases hc_; exact ht rfl
          have d0' : Boxed W2 w.heap.size 3 (.int .i64 I') := (hK2.2 _ d0.lt (fun e_ => hne d0 (by decide) _ e_.symm rfl)).trans d0
          have d1' : Boxed W2 (w.heap.size + 1) 3 (.int .i64 J') := (hK2.2 _ d1.lt (fun e_ => hne d1 (by decide) _ e_.symm rfl)).trans d1
          refine ⟨cut_from (Kd.S_typed hS) hK2, cut_keeps d2 (Kd.S_lt hS) (Kd.S_lt hv1) (hne d2 (by decide)) hK2 hat2, ⟨Nat.lt_of_lt_of_le hp (Nat.le_trans hK2.1 (grownBy_setCell' W2 (w.heap.size + 1 + 1) _).size), d0'.other (by omega) _, d1'.other (by omega) _, _, d2'.set _, fun h => by omega, ?_⟩, hb2.setCell (p := ⟨w.heap.size + 1 + 1, 0, none⟩) (by simp; omega) _⟩
          rw [cutP_snoc]
          exact Kd.S_set hv1 d2' (by decide) 0 _
    case done =>
      rintro D ys W hD rfl ⟨⟨hp, d0, d1, v, d2, hq, hS⟩, hBW⟩ hK
      have e2 := d2.cell
      have hS' := S_turn hS (grownBy_putObj' W D (.deferred none)) (fun r e => by cases e; exact ⟨_, hK, rfl⟩)
      have hBD := hBW.trans (belowK_b (w := w) (o' := .deferred none) (Nat.le_refl _) W D _ (by simp at hD; omega) hK rfl rfl)
      gi_wp2
      all_goals refine ⟨by simp, .inl ⟨_, _, rfl, run_takeDeferred hK, ?_⟩⟩
      · rename_i hle
        first | exact ⟨_, results_tmp rfl _ _ _, .slice none 0 0, by rfl, Kd.S_nil _ _ _ _ _, hBD⟩ | skip
      · exact ⟨_, results_tmp rfl _ _ _, v, by rfl, by subst hI' hJ'; exact hS', hBD⟩
    case stop =>
      rintro D c pre W hD _ ⟨⟨rfl, hij, d2⟩, hBW⟩ hK
      have e2 := d2.cell
      have hBD := hBW.trans (belowK_b (w := w) (o' := .deferred none) (Nat.le_refl _) W D _ (by simp at hD; omega) hK rfl rfl)
      gi_wp2
      all_goals refine ⟨by simp, .inl ⟨_, _, rfl, run_takeDeferred hK, ?_⟩⟩
      all_goals exact ⟨_, results_tmp rfl _ _ _, _, rfl, Kd.S_nil _ _ _ _ _, hBD⟩
  refine wpIn_wide.2 ?_
  refine wp_mono (Q := fun e a w => match e with | .normal => K0 a w | _ => False) ?_ (fun e a w h => by cases e <;> first | exact h | exact h.elim)
  have b0' : Boxed W0.drew w.heap.size 3 (.int .i64 i) := b0
  have b1' : Boxed W0.drew (w.heap.size + 1) 3 (.int .i64 j) := b1
  have b2' : Boxed W0.drew (w.heap.size + 1 + 1) 27 (.slice none 0 0) := b2
  have hB' : Below w.heap.size w W0.drew := below_drew hB0
  refine start_ (n := 9) (S := fun w' => w'.cell? ⟨w.heap.size + 1, 0, none⟩ = some (.int .i64 j)) (ds := [8]) #[false, false, false, false, false, false, false, false, false] (by kernel_rfl) rfl rfl b1'.cell (fun hHeld => ?_)
  generalize W0.drew = W1 at b0' b1' b2' hB' hHeld ⊢
  refine pure_ (i := 4) (N := some 14) (v := ?_) (a' := ?_) #[false, false, false, false, true, false, false, false, false] rfl rfl (any_of rfl (by kernel_rfl)) (fun _ _ _ h => h) (Or.inl ⟨by rfl, ?_⟩) ?_ ?_
  rotate_left
  · intro w'
    go_simp
    with_reducible rfl
  rotate_left
  · simp only [Act.put, List.setIfInBounds_toArray, List.set_cons_zero, List.set_cons_succ, i64_w, i32_w]
    rfl
  refine take_ (i := 2) (N := some 12) (v := ?_) (a' := ?_) #[false, false, true, false, true, false, false, false, false] rfl rfl (take_of rfl (by kernel_rfl)) (fun _ _ _ h => h) (Or.inl ⟨by rfl, ?_⟩) hHeld ?_ ?_
  rotate_left
  · rintro w' s0
    go_simp
    with_reducible rfl
  rotate_left
  · simp only [Act.put, List.setIfInBounds_toArray, List.set_cons_zero, List.set_cons_succ, i64_w, i32_w]
    rfl
  refine pure_ (i := 3) (N := some 13) (v := ?_) (a' := ?_) #[false, false, true, true, true, false, false, false, false] rfl rfl (any_of rfl (by kernel_rfl)) (fun _ _ _ h => h) (Or.inl ⟨by rfl, ?_⟩) ?_ ?_
  rotate_left
  · intro w'
    go_simp
    with_reducible rfl
  rotate_left
  · simp only [Act.put, List.setIfInBounds_toArray, List.set_cons_zero, List.set_cons_succ, i64_w, i32_w]
    rfl
  refine two_ (i := 0) (j := 5) (Ni := some 10) (Nj := some 15) #[true, false, true, true, true, false, false, false, false] #[false, false, true, true, true, true, false, false, false] rfl rfl rfl rfl (two_of rfl (by kernel_rfl)) (by decide) (by decide) (fun K hK => ?_) (fun K hK => ?_)
  · have cI := b0'.cell
    refine value_ (w1 := W1) (v := .int .i64 i) (by rfl) rfl ?_ ?_
    · go_simp
      done
    refine hK.out _ _ hHeld (fun hHeld => ?_)
    clear hK K
    refine norm_ (a' := ?_) ?_ ?_
    rotate_left
    · show Act.put _ (some 10) _ = _
      simp only [Act.put, List.setIfInBounds_toArray, List.set_cons_zero, List.set_cons_succ, i64_w, i32_w]
      rfl
    refine pure_ (i := 1) (N := some 11) (v := ?_) (a' := ?_) #[true, true, true, true, true, false, false, false, false] rfl rfl (any_of rfl (by kernel_rfl)) (fun _ _ _ h => h) (Or.inl ⟨by rfl, ?_⟩) ?_ ?_
    rotate_left
    · intro w'
      go_simp
      with_reducible rfl
    rotate_left
    · simp only [Act.put, List.setIfInBounds_toArray, List.set_cons_zero, List.set_cons_succ, i64_w, i32_w]
      rfl
    refine one_ (i := 5) (N := some 15) #[true, true, true, true, true, true, false, false, false] rfl rfl (one_of rfl (by kernel_rfl)) (by decide) (fun K hK => ?_)
    refine goes_ Try.func13 (by kernel_rfl) rfl #[.slice A xs.length cap] (by rfl) rfl rfl (by (try simp only [List.map_toArray, List.map_cons, List.map_nil]); first | done | rfl) ?_
    refine (blocks_Len.calls A cap xs (atP xs xs.length) W1 (Kd.C_below hC hB') hcap (by unfold blocks_Len.f; rw [if_pos hreach])).mono ?_
    rintro e W2 ⟨rfl, hb⟩
    refine ⟨_, rfl, ?_⟩
    have b0' : Boxed W2 w.heap.size 3 (.int .i64 i) := (hb.block _ b0'.lt).trans b0'
    have b1' : Boxed W2 (w.heap.size + 1) 3 (.int .i64 j) := (hb.block _ b1'.lt).trans b1'
    have b2' : Boxed W2 (w.heap.size + 1 + 1) 27 (.slice none 0 0) := (hb.block _ b2'.lt).trans b2'
    have hB' : Below w.heap.size w W2 := hB'.trans (hb.mono hB'.size)
    refine hK.out _ _ b1'.cell (fun hHeld => ?_)
    clear hK K
    refine norm_ (a' := ?_) ?_ ?_
    rotate_left
    · show Act.put _ (some 15) _ = _
      simp only [Act.put, List.setIfInBounds_toArray, List.set_cons_zero, List.set_cons_succ, i64_w, i32_w]
      rfl
    refine pure_ (i := 6) (N := some 16) (v := ?_) (a' := ?_) #[true, true, true, true, true, true, true, false, false] rfl rfl (any_of rfl (by kernel_rfl)) (fun _ _ _ h => h) (Or.inl ⟨by rfl, ?_⟩) ?_ ?_
    rotate_left
    · intro w'
      go_simp
      with_reducible rfl
    rotate_left
    · simp only [Act.put, List.setIfInBounds_toArray, List.set_cons_zero, List.set_cons_succ, i64_w, i32_w]
      rfl
    refine one_ (i := 7) (N := none) #[true, true, true, true, true, true, true, true, false] rfl rfl (one_of rfl (by kernel_rfl)) (by decide) (fun K hK => ?_)
    have c0 := b0'.cell
    have f0 := b0'.frozen
    refine skip_ (w1 := W2.setCell ⟨w.heap.size, 0, none⟩ (.int .i64 (mx i 0))) (by rfl) rfl ?_ ?_
    · go_simp
      rfl
    have d0 := b0'.set (.int .i64 (mx i 0))
    have d1 := b1'.other (B' := w.heap.size) (by omega) (.int .i64 (mx i 0))
    have d2 := b2'.other (B' := w.heap.size) (by omega) (.int .i64 (mx i 0))
    refine hK.out _ _ d1.cell (fun hHeld => ?_)
    clear hK K
    refine last_ (i := 8) (N := none) #[true, true, true, true, true, true, true, true, true] rfl rfl (one_of rfl (by kernel_rfl)) (by decide) (fun K hK => ?_)
    have c1 := d1.cell
    have f1 := d1.frozen
    refine skip_ (w1 := (W2.setCell ⟨w.heap.size, 0, none⟩ (.int .i64 (mx i 0))).setCell ⟨w.heap.size + 1, 0, none⟩ (.int .i64 (mn (mx j 0) (atP xs xs.length)))) (by rfl) rfl ?_ ?_
    · go_simp
      rfl
    refine hK.out _ _ ?_
    clear hK K
    refine done_ (done_of rfl (by kernel_rfl)) ?_
    exact hrest _ (d0.other (by omega) _) (d1.set _) (d2.other (by omega) _) ((hB'.setCell (p := ⟨w.heap.size, 0, none⟩) (Nat.le_refl _) _).setCell (p := ⟨w.heap.size + 1, 0, none⟩) (by simp) _)
  · refine goes_ Try.func13 (by kernel_rfl) rfl #[.slice A xs.length cap] (by rfl) rfl rfl (by (try simp only [List.map_toArray, List.map_cons, List.map_nil]); first | done | rfl) ?_
    refine (blocks_Len.calls A cap xs (atP xs xs.length) W1 (Kd.C_below hC hB') hcap (by unfold blocks_Len.f; rw [if_pos hreach])).mono ?_
    rintro e W2 ⟨rfl, hb⟩
    refine ⟨_, rfl, ?_⟩
    have b0' : Boxed W2 w.heap.size 3 (.int .i64 i) := (hb.block _ b0'.lt).trans b0'
    have b1' : Boxed W2 (w.heap.size + 1) 3 (.int .i64 j) := (hb.block _ b1'.lt).trans b1'
    have b2' : Boxed W2 (w.heap.size + 1 + 1) 27 (.slice none 0 0) := (hb.block _ b2'.lt).trans b2'
    have hB' : Below w.heap.size w W2 := hB'.trans (hb.mono hB'.size)
    refine hK.out _ _ b1'.cell (fun hHeld => ?_)
    clear hK K
    refine norm_ (a' := ?_) ?_ ?_
    rotate_left
    · show Act.put _ (some 15) _ = _
      simp only [Act.put, List.setIfInBounds_toArray, List.set_cons_zero, List.set_cons_succ, i64_w, i32_w]
      rfl
    refine pure_ (i := 6) (N := some 16) (v := ?_) (a' := ?_) #[false, false, true, true, true, true, true, false, false] rfl rfl (any_of rfl (by kernel_rfl)) (fun _ _ _ h => h) (Or.inl ⟨by rfl, ?_⟩) ?_ ?_
    rotate_left
    · intro w'
      go_simp
      with_reducible rfl
    rotate_left
    · simp only [Act.put, List.setIfInBounds_toArray, List.set_cons_zero, List.set_cons_succ, i64_w, i32_w]
      rfl
    refine one_ (i := 0) (N := some 10) #[true, false, true, true, true, true, true, false, false] rfl rfl (one_of rfl (by kernel_rfl)) (by decide) (fun K hK => ?_)
    have cI := b0'.cell
    refine value_ (w1 := W2) (v := .int .i64 i) (by rfl) rfl ?_ ?_
    · go_simp
      done
    refine hK.out _ _ hHeld (fun hHeld => ?_)
    clear hK K
    refine norm_ (a' := ?_) ?_ ?_
    rotate_left
    · show Act.put _ (some 10) _ = _
      simp only [Act.put, List.setIfInBounds_toArray, List.set_cons_zero, List.set_cons_succ, i64_w, i32_w]
      rfl
    refine pure_ (i := 1) (N := some 11) (v := ?_) (a' := ?_) #[true, true, true, true, true, true, true, false, false] rfl rfl (any_of rfl (by kernel_rfl)) (fun _ _ _ h => h) (Or.inl ⟨by rfl, ?_⟩) ?_ ?_
    rotate_left
    · intro w'
      go_simp
      with_reducible rfl
    rotate_left
    · simp only [Act.put, List.setIfInBounds_toArray, List.set_cons_zero, List.set_cons_succ, i64_w, i32_w]
      rfl
    refine one_ (i := 7) (N := none) #[true, true, true, true, true, true, true, true, false] rfl rfl (one_of rfl (by kernel_rfl)) (by decide) (fun K hK => ?_)
    have c0 := b0'.cell
    have f0 := b0'.frozen
    refine skip_ (w1 := W2.setCell ⟨w.heap.size, 0, none⟩ (.int .i64 (mx i 0))) (by rfl) rfl ?_ ?_
    · go_simp
      rfl
    have d0 := b0'.set (.int .i64 (mx i 0))
    have d1 := b1'.other (B' := w.heap.size) (by omega) (.int .i64 (mx i 0))
    have d2 := b2'.other (B' := w.heap.size) (by omega) (.int .i64 (mx i 0))
    refine hK.out _ _ d1.cell (fun hHeld => ?_)
    clear hK K
    refine last_ (i := 8) (N := none) #[true, true, true, true, true, true, true, true, true] rfl rfl (one_of rfl (by kernel_rfl)) (by decide) (fun K hK => ?_)
    have c1 := d1.cell
    have f1 := d1.frozen
    refine skip_ (w1 := (W2.setCell ⟨w.heap.size, 0, none⟩ (.int .i64 (mx i 0))).setCell ⟨w.heap.size + 1, 0, none⟩ (.int .i64 (mn (mx j 0) (atP xs xs.length)))) (by rfl) rfl ?_ ?_
    · go_simp
      rfl
    refine hK.out _ _ ?_
    clear hK K
    refine done_ (done_of rfl (by kernel_rfl)) ?_
    exact hrest _ (d0.other (by omega) _) (d1.set _) (d2.other (by omega) _) ((hB'.setCell (p := ⟨w.heap.size, 0, none⟩) (Nat.le_refl _) _).setCell (p := ⟨w.heap.size + 1, 0, none⟩) (by simp) _)
def blocks_Cut.f (l0 : List (S34)) (a1 : Int) (a2 : Int) : Option ((List (S34))) :=
  if l0.length * 32 ≤ 140737488351232 ∧ ∀ b ∈ l0, b.f1.length < 2932031007402 then
    some (if mn (mx a2 0) (atP l0 l0.length) ≤ mx a1 0 then [] else cutP l0 (mx a1 0) (mn (mx a2 0) (atP l0 l0.length)) (List.finRange l0.length)) else none
theorem blocks_Cut.calls (A0 : Option Addr) (c0 : Nat) (l0 : List (S34)) (a1 : Int) (a2 : Int) (r : List (S34)) (w : World) (hr0 : Kd.C k34 w A0 l0.length l0) (hc0 : l0.length ≤ c0) (h : blocks_Cut.f l0 a1 a2 = some r) :
    Calls Try.prog 18 #[.slice A0 l0.length c0, .int .i64 a1, .int .i64 a2] w fun e w' => ∃ v0_ : Value, e = .returned (v0_) ∧ Kd.S k34 34 w' w.heap.size (fun _ => True) v0_ r ∧ Below w.heap.size w w' := by
  unfold blocks_Cut.f at h
  split at h
  · rename_i hc
    cases h
    exact callsIn_wide.1 (Cut_in 6 (by omega) A0 c0 l0 a1 a2 hc.1 w hr0 hc0 hc.2)
  · cases h
end Go.Proofs.Ytpnoeggnniagfaa.P
