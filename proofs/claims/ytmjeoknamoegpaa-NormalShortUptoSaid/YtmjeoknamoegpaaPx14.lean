-- laid by print.py over an altered print (wip/tools/pr.py); the walks of the altered functions are by hand
import Derived.Test.YtmjeoknamoegpaaPx0
import Derived.Test.YtmjeoknamoegpaaKnown
import Derived.Test.YtmjeoknamoegpaaIsN
import Derived.Test.YtmjeoknamoegpaaOfN
import Derived.Test.YtmjeoknamoegpaaSameO
import Derived.Test.YtmjeoknamoegpaaPx11
import Derived.Test.YtmjeoknamoegpaaPx12
namespace Go.Proofs.Ytmjeoknamoegpaa.P
open Go.RowKit Go.Proofs.YtmjeoknamoegpaaW.PrintWords Go.Proofs.YtmjeoknamoegpaaW.PrintLast Go.Proofs.YtmjeoknamoegpaaW.PrintMore
attribute [local go_sem] max2_int min2_int max_two min_two max_three min_three max_four min_four   -- for this text's walks alone
set_option linter.unusedVariables false
set_option linter.unusedSimpArgs false

/-! ### rubriclaw16_NormalShort: function 4 -/
mutual
def rubriclaw16_NormalShort.l0 : Nat → List (S30) → List (S30) → Int → Int → Int → Int → Int → Int → Option (Bool)
  | 0, _, _, _, _, _, _, _, _ => none
  | k + 1, x1, x5, x6, x7, x8, x9, x20, x21 => if x21 < x20 then (if 0 ≤ x21 then (if x21 < (x1.length : Int) then (if ((rd_T30 x1 x21).f0) = 3 then (rubriclaw16_NormalShort.l0 k x1 x5 (wrap64 (x6 + (((rd_T30 x1 x21).f2).length : Int))) (wrap64 (x7 + ((rd_T30 x1 x21).f1))) x8 x9 x20 (wrap64 (x21 + 1))) else (rubriclaw16_NormalShort.l0 k x1 x5 (wrap64 (x6 + (((rd_T30 x1 x21).f2).length : Int))) x7 x8 x9 x20 (wrap64 (x21 + 1)))) else (none)) else (none)) else (rubriclaw16_NormalShort.l1 k x1 x5 x6 x7 x8 x9 (x5.length : Int) 0)
def rubriclaw16_NormalShort.l1 : Nat → List (S30) → List (S30) → Int → Int → Int → Int → Int → Int → Option (Bool)
  | 0, _, _, _, _, _, _, _, _ => none
  | k + 1, x1, x5, x6, x7, x8, x9, x47, x48 => if x48 < x47 then (if 0 ≤ x48 then (if x48 < (x5.length : Int) then (if ((rd_T30 x5 x48).f0) = 3 then (rubriclaw16_NormalShort.l1 k x1 x5 x6 x7 (wrap64 (x8 + (((rd_T30 x5 x48).f2).length : Int))) (wrap64 (x9 + ((rd_T30 x5 x48).f1))) x47 (wrap64 (x48 + 1))) else (rubriclaw16_NormalShort.l1 k x1 x5 x6 x7 (wrap64 (x8 + (((rd_T30 x5 x48).f2).length : Int))) x9 x47 (wrap64 (x48 + 1)))) else (none)) else (none)) else (if (x5.length : Int) ≤ (x1.length : Int) then (if x6 = x8 then (if x7 = x9 then ((normal_Is.f x1).bind fun t329 => ((ops_Same.f x5 x1).bind fun t330 => (if (t329 == t330) = true then ((rubriclaw16_known.f).bind fun t331 => (some t331)) else (some false)))) else (some false)) else (some false)) else (some false))
end
def rubriclaw16_NormalShort.f (k : Nat) (l0 : List (S64)) (l1 : List (S30)) : Option (Bool) := (rubriclaw16_tame.f k l0 l1).bind fun t318 => (if t318 = true then ((normal_Of.f l1).bind fun t320 => (rubriclaw16_NormalShort.l0 k l1 t320 0 0 0 0 (l1.length : Int) 0)) else ((rubriclaw16_known.f).bind fun t319 => (some t319)))
theorem rubriclaw16_NormalShort.mono_l : ∀ k, (∀ y0 y1 y2 y3 y4 y5 y6 y7, LeO (rubriclaw16_NormalShort.l0 k y0 y1 y2 y3 y4 y5 y6 y7) (rubriclaw16_NormalShort.l0 (k + 1) y0 y1 y2 y3 y4 y5 y6 y7)) ∧ (∀ y0 y1 y2 y3 y4 y5 y6 y7, LeO (rubriclaw16_NormalShort.l1 k y0 y1 y2 y3 y4 y5 y6 y7) (rubriclaw16_NormalShort.l1 (k + 1) y0 y1 y2 y3 y4 y5 y6 y7))
  | 0 => ⟨fun _ _ _ _ _ _ _ _ r h => by simp [rubriclaw16_NormalShort.l0] at h, fun _ _ _ _ _ _ _ _ r h => by simp [rubriclaw16_NormalShort.l1] at h⟩
  | k + 1 => by
    obtain ⟨ih0, ih1⟩ := rubriclaw16_NormalShort.mono_l k
    refine ⟨?_, ?_⟩
    · intro y0 y1 y2 y3 y4 y5 y6 y7
      unfold rubriclaw16_NormalShort.l0
      repeat' first
      | (with_reducible exact ih0 _ _ _ _ _ _ _ _)
      | (with_reducible exact ih1 _ _ _ _ _ _ _ _)
      | (with_reducible exact rubriclaw16_tame.mono _ _ _)
      | (with_reducible exact LeO.refl _)
      | (with_reducible exact LeO.none _)
      | (with_reducible refine LeO.ite ?_ ?_)
      | (with_reducible refine LeO.bind ?_ (fun _ => ?_))
      | exact ih0 _ _ _ _ _ _ _ _
      | exact ih1 _ _ _ _ _ _ _ _
      | exact rubriclaw16_tame.mono _ _ _
      | exact LeO.none _
      | refine LeO.ite ?_ ?_
      | refine LeO.bind ?_ (fun _ => ?_)
    · intro y0 y1 y2 y3 y4 y5 y6 y7
      unfold rubriclaw16_NormalShort.l1
      repeat' first
      | (with_reducible exact ih0 _ _ _ _ _ _ _ _)
      | (with_reducible exact ih1 _ _ _ _ _ _ _ _)
      | (with_reducible exact rubriclaw16_tame.mono _ _ _)
      | (with_reducible exact LeO.refl _)
      | (with_reducible exact LeO.none _)
      | (with_reducible refine LeO.ite ?_ ?_)
      | (with_reducible refine LeO.bind ?_ (fun _ => ?_))
      | exact ih0 _ _ _ _ _ _ _ _
      | exact ih1 _ _ _ _ _ _ _ _
      | exact rubriclaw16_tame.mono _ _ _
      | exact LeO.none _
      | refine LeO.ite ?_ ?_
      | refine LeO.bind ?_ (fun _ => ?_)
theorem rubriclaw16_NormalShort.mono : ∀ a0 a1 k, LeO (rubriclaw16_NormalShort.f k a0 a1) (rubriclaw16_NormalShort.f (k + 1) a0 a1) := by
  intro a0 a1 k
  obtain ⟨ih0, ih1⟩ := rubriclaw16_NormalShort.mono_l k
  unfold rubriclaw16_NormalShort.f
  repeat' first
      | (with_reducible exact ih0 _ _ _ _ _ _ _ _)
      | (with_reducible exact ih1 _ _ _ _ _ _ _ _)
      | (with_reducible exact rubriclaw16_tame.mono _ _ _)
      | (with_reducible exact LeO.refl _)
      | (with_reducible exact LeO.none _)
      | (with_reducible refine LeO.ite ?_ ?_)
      | (with_reducible refine LeO.bind ?_ (fun _ => ?_))
      | exact ih0 _ _ _ _ _ _ _ _
      | exact ih1 _ _ _ _ _ _ _ _
      | exact rubriclaw16_tame.mono _ _ _
      | exact LeO.none _
      | refine LeO.ite ?_ ?_
      | refine LeO.bind ?_ (fun _ => ?_)
set_option maxHeartbeats 8000000 in
set_option maxRecDepth 100000 in
theorem rubriclaw16_NormalShort.calls (k : Nat) (A0 : Option Addr) (c0 : Nat) (l0 : List (S64)) (A1 : Option Addr) (c1 : Nat) (l1 : List (S30)) (r : Bool) (w : World) (hr0 : Kd.C k64 w A0 l0.length l0) (hc0 : l0.length ≤ c0) (hr1 : Kd.C k30 w A1 l1.length l1) (hc1 : l1.length ≤ c1) (h : rubriclaw16_NormalShort.f k l0 l1 = some r) :
    Calls Try.prog 4 #[.slice A0 l0.length c0, .slice A1 l1.length c1] w fun e w' => e = .returned (.bool r) ∧ Below w.heap.size w w' := by
  have HR0 := Aside0.mk hr0
  have HC0 := Aside0.mk hc0
  clear hr0 hc0
  have HR1 := Aside0.mk hr1
  have HC1 := Aside0.mk hc1
  clear hr1 hc1
  have HB := Aside0.mk (Below.refl w.heap.size w)
  have H : ((rubriclaw16_tame.f k l0 l1).bind fun t318 => (if t318 = true then ((normal_Of.f l1).bind fun t320 => (rubriclaw16_NormalShort.l0 k l1 t320 0 0 0 0 (l1.length : Int) 0)) else ((rubriclaw16_known.f).bind fun t319 => (some t319)))) = some r := h
  clear h
  replace H := Option.bind_eq_some_iff.mp H
  obtain ⟨t318, A30, H⟩ := H
  replace H : (if t318 = true then ((normal_Of.f l1).bind fun t320 => (rubriclaw16_NormalShort.l0 k l1 t320 0 0 0 0 (l1.length : Int) 0)) else ((rubriclaw16_known.f).bind fun t319 => (some t319))) = some r := H
  have A3 := Aside0.mk A30
  clear A30
  by_cases c4 : t318 = true
  · subst c4
    have H1 : ((normal_Of.f l1).bind fun t320 => (rubriclaw16_NormalShort.l0 k l1 t320 0 0 0 0 (l1.length : Int) 0)) = some r := by rw [if_pos rfl] at H; exact H
    clear H
    have H := H1
    clear H1
    replace H := Option.bind_eq_some_iff.mp H
    obtain ⟨t320, A50, H⟩ := H
    replace H : (rubriclaw16_NormalShort.l0 k l1 t320 0 0 0 0 (l1.length : Int) 0) = some r := H
    have A5 := Aside0.mk A50
    clear A50
    have H' := Aside0.mk H
    clear H
    go_enter Try.func4, Try.ntmps4
    go_wp2_with (first | ((with_reducible refine gate_callee (f := 8) rfl ?_); refine goesL_ (some 14) rfl rfl Try.func8 (by kernel_rfl) rfl #[.slice A0 l0.length c0, .slice A1 l1.length c1] rfl (by (try simp only [List.map_toArray, List.map_cons, List.map_nil]); first | done | rfl | (simp only [List.length_drop, List.length_take]; rfl)) ?_; (with_reducible refine (rubriclaw16_tame.calls k _ _ l0 _ _ l1 true _ ?side1 ?side2 ?side3 ?side4 A3.out).mono ?_); (case side1 => repeat (first | exact HR0.out | (with_reducible refine Kd.C_alloc ?_ _) | (with_reducible refine Kd.C_drewN ?_ _) | (with_reducible refine Kd.C_drew ?_))); (case side2 => exact HC0.out); (case side3 => repeat (first | exact HR1.out | (with_reducible refine Kd.C_alloc ?_ _) | (with_reducible refine Kd.C_drewN ?_ _) | (with_reducible refine Kd.C_drew ?_))); (case side4 => exact HC1.out); rintro e w6 ⟨rfl, hb⟩; refine ⟨_, rfl, ?_⟩; have n0_ := Aside0.mk (below_step (by repeat (first | (with_reducible first | exact HB.out | apply below_alloc | apply pw_below_drewN | apply below_drew1) | exact HB.out | exact Below.refl _ _)) hb); clear HB; have HB := n0_; clear n0_; (try clear hb); (try clear hb2); (try clear hk); (try clear hi)) | ((with_reducible refine gate_callee (f := 12) rfl ?_); refine goesL_ (some 18) rfl rfl Try.func12 (by kernel_rfl) rfl #[.slice A1 l1.length c1] rfl (by (try simp only [List.map_toArray, List.map_cons, List.map_nil]); first | done | rfl | (simp only [List.length_drop, List.length_take]; rfl)) ?_; (with_reducible refine (normal_Of.calls _ _ l1 t320 _ ?side1 ?side2 A5.out).mono ?_); (case side1 => repeat (first | exact (Kd.C_below HR1.out HB.out) | (with_reducible refine Kd.C_alloc ?_ _) | (with_reducible refine Kd.C_drewN ?_ _) | (with_reducible refine Kd.C_drew ?_))); (case side2 => exact HC1.out); rintro e w7 ⟨v321, rfl, ho0, hb⟩; refine ⟨_, rfl, ?_⟩; have n0_ := Aside0.mk (Kd.S_lower ho0 (below_size (by repeat (first | (with_reducible first | exact HB.out | apply below_alloc | apply pw_below_drewN | apply below_drew1) | exact HB.out | exact Below.refl _ _)))); have n1_ := Aside0.mk (below_step (by repeat (first | (with_reducible first | exact HB.out | apply below_alloc | apply pw_below_drewN | apply below_drew1) | exact HB.out | exact Below.refl _ _)) hb); clear HB; have HO322 := n0_; have HB := n1_; clear n0_ n1_; (try clear hb); (try clear hb2); (try clear hk); (try clear hi); (try clear ho0)))
    go_loopg [6, 7, 21] k (fun kq v6 v7 v21 w' => ∃ (x6_1 : Int) (x7_1 : Int) (x21_1 : Int), v6 = .int .i64 x6_1 ∧ v7 = .int .i64 x7_1 ∧ v21 = .int .i64 x21_1 ∧ Aside0 (rubriclaw16_NormalShort.l0 kq l1 t320 x6_1 x7_1 0 0 (l1.length : Int) x21_1 = some r) ∧ Aside0 (kq ≤ k) ∧ Aside0 (Kd.S k30 30 w' w.heap.size (fun _ => True) v321 t320) ∧ Aside0 (Below w.heap.size w w'))
    case atStart => exact ⟨(0), (0), (0), (by first | rfl | (simp; done) | (simp [*]; done)), (by first | rfl | (simp; done) | (simp [*]; done)), (by first | rfl | (simp; done) | (simp [*]; done)), H', ⟨Nat.le_refl _⟩, ⟨by (with_reducible repeat (first | apply Kd.S_alloc | apply Kd.S_drewN | apply Kd.S_drew)); exact HO322.out⟩, ⟨by repeat (first | (with_reducible first | exact HB.out | apply below_alloc | apply pw_below_drewN | apply below_drew1) | exact HB.out | exact Below.refl _ _)⟩⟩
    case round =>
      clear H'
      try clear c1
      try clear p2
      try clear c4
      obtain ⟨x6_1, x7_1, x21_1, rfl, rfl, rfl, HA, HK1, HO_5, HB⟩ := hrel
      cases gk with
      | zero => exact absurd HA.out (by simp [rubriclaw16_NormalShort.l0])
      | succ k1 =>
        have H := HA.out
        clear HA
        simp only [rubriclaw16_NormalShort.l0] at H
        by_cases c8 : x21_1 < (l1.length : Int)
        · rw [if_pos c8] at H
          have c8b0 : decide (x21_1 < (l1.length : Int)) = true := decide_eq_true c8
          clear c8
          by_cases c9 : 0 ≤ x21_1
          · rw [if_pos c9] at H
            have c9b0 : decide (0 ≤ x21_1) = true := decide_eq_true c9
            clear c9
            by_cases c10 : x21_1 < (l1.length : Int)
            · rw [if_pos c10] at H
              have c10b0 : decide (x21_1 < (l1.length : Int)) = true := decide_eq_true c10
              clear c10
              by_cases c11 : ((rd_T30 l1 x21_1).f0) = 3
              · rw [if_pos c11] at H
                have c11b0 : (((rd_T30 l1 x21_1).f0) == 3) = true := beq_iff_eq.mpr c11
                have c11b1 : (((rd_T30 l1 x21_1).f0) != 3) = false := bne_eq_false_iff_eq.mpr c11
                clear c11
                have H' := Aside0.mk H
                clear H
                have p323 : 0 ≤ (x21_1 : Int) := of_decide_eq_true (by first | (with_reducible assumption) | assumption)
                have q323 : x21_1 < (l1.length : Int) := of_decide_eq_true (by first | (with_reducible assumption) | assumption)
                obtain ⟨ad323, A323_2, c323_2, A323_3, c323_3, A323_4, c323_4, e323, hx323_0, hx323_1, hx323_2, hx323_3, hx323_4, hl323_2, hi323_2, hl323_3, hi323_3, hl323_4, hi323_4⟩ := at_T30 HR1.out x21_1 p323 q323
                cases e323
                replace hx323_0 := (HB.out.cell (World.block_lt_of_cell? w _ hx323_0)).trans hx323_0
                replace hx323_1 := (HB.out.cell (World.block_lt_of_cell? w _ hx323_1)).trans hx323_1
                replace hx323_2 := (HB.out.cell (World.block_lt_of_cell? w _ hx323_2)).trans hx323_2
                replace hx323_3 := (HB.out.cell (World.block_lt_of_cell? w _ hx323_3)).trans hx323_3
                replace hx323_4 := (HB.out.cell (World.block_lt_of_cell? w _ hx323_4)).trans hx323_4
                have HR323_2 := Aside0.mk hi323_2
                have HC323_2 := Aside0.mk hl323_2
                clear hi323_2 hl323_2
                have HR323_3 := Aside0.mk hi323_3
                have HC323_3 := Aside0.mk hl323_3
                clear hi323_3 hl323_3
                have HR323_4 := Aside0.mk hi323_4
                have HC323_4 := Aside0.mk hl323_4
                clear hi323_4 hl323_4
                replace p323 := eq_true p323
                replace q323 := eq_true q323
                have p324 : 0 ≤ (x21_1 : Int) := of_decide_eq_true (by first | (with_reducible assumption) | assumption)
                have q324 : x21_1 < (l1.length : Int) := of_decide_eq_true (by first | (with_reducible assumption) | assumption)
                obtain ⟨ad324, A324_2, c324_2, A324_3, c324_3, A324_4, c324_4, e324, hx324_0, hx324_1, hx324_2, hx324_3, hx324_4, hl324_2, hi324_2, hl324_3, hi324_3, hl324_4, hi324_4⟩ := at_T30 HR1.out x21_1 p324 q324
                obtain rfl : ad323 = ad324 := (by injection e324)
                replace hx324_0 := (HB.out.cell (World.block_lt_of_cell? w _ hx324_0)).trans hx324_0
                replace hx324_1 := (HB.out.cell (World.block_lt_of_cell? w _ hx324_1)).trans hx324_1
                replace hx324_2 := (HB.out.cell (World.block_lt_of_cell? w _ hx324_2)).trans hx324_2
                replace hx324_3 := (HB.out.cell (World.block_lt_of_cell? w _ hx324_3)).trans hx324_3
                replace hx324_4 := (HB.out.cell (World.block_lt_of_cell? w _ hx324_4)).trans hx324_4
                have HR324_2 := Aside0.mk hi324_2
                have HC324_2 := Aside0.mk hl324_2
                clear hi324_2 hl324_2
                have HR324_3 := Aside0.mk hi324_3
                have HC324_3 := Aside0.mk hl324_3
                clear hi324_3 hl324_3
                have HR324_4 := Aside0.mk hi324_4
                have HC324_4 := Aside0.mk hl324_4
                clear hi324_4 hl324_4
                replace p324 := eq_true p324
                replace q324 := eq_true q324
                have ea_ := Option.some.inj (hx323_2.symm.trans hx324_2)
                injection ea_ with ea_ en_ ec_
                subst ea_
                subst ec_
                clear en_
                have ea_ := Option.some.inj (hx323_3.symm.trans hx324_3)
                injection ea_ with ea_ en_ ec_
                subst ea_
                subst ec_
                clear en_
                have ea_ := Option.some.inj (hx323_4.symm.trans hx324_4)
                injection ea_ with ea_ en_ ec_
                subst ea_
                subst ec_
                clear en_
                have p325 : 0 ≤ (x21_1 : Int) := of_decide_eq_true (by first | (with_reducible assumption) | assumption)
                have q325 : x21_1 < (l1.length : Int) := of_decide_eq_true (by first | (with_reducible assumption) | assumption)
                obtain ⟨ad325, A325_2, c325_2, A325_3, c325_3, A325_4, c325_4, e325, hx325_0, hx325_1, hx325_2, hx325_3, hx325_4, hl325_2, hi325_2, hl325_3, hi325_3, hl325_4, hi325_4⟩ := at_T30 HR1.out x21_1 p325 q325
                obtain rfl : ad323 = ad325 := (by injection e325)
                replace hx325_0 := (HB.out.cell (World.block_lt_of_cell? w _ hx325_0)).trans hx325_0
                replace hx325_1 := (HB.out.cell (World.block_lt_of_cell? w _ hx325_1)).trans hx325_1
                replace hx325_2 := (HB.out.cell (World.block_lt_of_cell? w _ hx325_2)).trans hx325_2
                replace hx325_3 := (HB.out.cell (World.block_lt_of_cell? w _ hx325_3)).trans hx325_3
                replace hx325_4 := (HB.out.cell (World.block_lt_of_cell? w _ hx325_4)).trans hx325_4
                have HR325_2 := Aside0.mk hi325_2
                have HC325_2 := Aside0.mk hl325_2
                clear hi325_2 hl325_2
                have HR325_3 := Aside0.mk hi325_3
                have HC325_3 := Aside0.mk hl325_3
                clear hi325_3 hl325_3
                have HR325_4 := Aside0.mk hi325_4
                have HC325_4 := Aside0.mk hl325_4
                clear hi325_4 hl325_4
                replace p325 := eq_true p325
                replace q325 := eq_true q325
                have ea_ := Option.some.inj (hx323_2.symm.trans hx325_2)
                injection ea_ with ea_ en_ ec_
                subst ea_
                subst ec_
                clear en_
                have ea_ := Option.some.inj (hx323_3.symm.trans hx325_3)
                injection ea_ with ea_ en_ ec_
                subst ea_
                subst ec_
                clear en_
                have ea_ := Option.some.inj (hx323_4.symm.trans hx325_4)
                injection ea_ with ea_ en_ ec_
                subst ea_
                subst ec_
                clear en_
                go_wp2
                go_roundg k1
                case measure => have := HK1.out; omega
                case rel => exact ⟨(wrap64 (x6_1 + (((rd_T30 l1 x21_1).f2).length : Int))), (wrap64 (x7_1 + ((rd_T30 l1 x21_1).f1))), (wrap64 (x21_1 + 1)), (by first | rfl | (simp; done) | (simp [*]; done)), (by first | rfl | (simp; done) | (simp [*]; done)), (by first | rfl | (simp; done) | (simp [*]; done)), H', ⟨by have := HK1.out; omega⟩, ⟨by (with_reducible repeat (first | apply Kd.S_alloc | apply Kd.S_drewN | apply Kd.S_drew)); exact HO_5.out⟩, ⟨by repeat (first | (with_reducible first | exact HB.out | apply below_alloc | apply pw_below_drewN | apply below_drew1) | exact HB.out | exact Below.refl _ _)⟩⟩
              · rw [if_neg c11] at H
                have c11b0 : (((rd_T30 l1 x21_1).f0) == 3) = false := beq_eq_false_iff_ne.mpr c11
                have c11b1 : (((rd_T30 l1 x21_1).f0) != 3) = true := bne_iff_ne.mpr c11
                have H' := Aside0.mk H
                clear H
                have p323 : 0 ≤ (x21_1 : Int) := of_decide_eq_true (by first | (with_reducible assumption) | assumption)
                have q323 : x21_1 < (l1.length : Int) := of_decide_eq_true (by first | (with_reducible assumption) | assumption)
                obtain ⟨ad323, A323_2, c323_2, A323_3, c323_3, A323_4, c323_4, e323, hx323_0, hx323_1, hx323_2, hx323_3, hx323_4, hl323_2, hi323_2, hl323_3, hi323_3, hl323_4, hi323_4⟩ := at_T30 HR1.out x21_1 p323 q323
                cases e323
                replace hx323_0 := (HB.out.cell (World.block_lt_of_cell? w _ hx323_0)).trans hx323_0
                replace hx323_1 := (HB.out.cell (World.block_lt_of_cell? w _ hx323_1)).trans hx323_1
                replace hx323_2 := (HB.out.cell (World.block_lt_of_cell? w _ hx323_2)).trans hx323_2
                replace hx323_3 := (HB.out.cell (World.block_lt_of_cell? w _ hx323_3)).trans hx323_3
                replace hx323_4 := (HB.out.cell (World.block_lt_of_cell? w _ hx323_4)).trans hx323_4
                have HR323_2 := Aside0.mk hi323_2
                have HC323_2 := Aside0.mk hl323_2
                clear hi323_2 hl323_2
                have HR323_3 := Aside0.mk hi323_3
                have HC323_3 := Aside0.mk hl323_3
                clear hi323_3 hl323_3
                have HR323_4 := Aside0.mk hi323_4
                have HC323_4 := Aside0.mk hl323_4
                clear hi323_4 hl323_4
                replace p323 := eq_true p323
                replace q323 := eq_true q323
                have p324 : 0 ≤ (x21_1 : Int) := of_decide_eq_true (by first | (with_reducible assumption) | assumption)
                have q324 : x21_1 < (l1.length : Int) := of_decide_eq_true (by first | (with_reducible assumption) | assumption)
                obtain ⟨ad324, A324_2, c324_2, A324_3, c324_3, A324_4, c324_4, e324, hx324_0, hx324_1, hx324_2, hx324_3, hx324_4, hl324_2, hi324_2, hl324_3, hi324_3, hl324_4, hi324_4⟩ := at_T30 HR1.out x21_1 p324 q324
                obtain rfl : ad323 = ad324 := (by injection e324)
                replace hx324_0 := (HB.out.cell (World.block_lt_of_cell? w _ hx324_0)).trans hx324_0
                replace hx324_1 := (HB.out.cell (World.block_lt_of_cell? w _ hx324_1)).trans hx324_1
                replace hx324_2 := (HB.out.cell (World.block_lt_of_cell? w _ hx324_2)).trans hx324_2
                replace hx324_3 := (HB.out.cell (World.block_lt_of_cell? w _ hx324_3)).trans hx324_3
                replace hx324_4 := (HB.out.cell (World.block_lt_of_cell? w _ hx324_4)).trans hx324_4
                have HR324_2 := Aside0.mk hi324_2
                have HC324_2 := Aside0.mk hl324_2
                clear hi324_2 hl324_2
                have HR324_3 := Aside0.mk hi324_3
                have HC324_3 := Aside0.mk hl324_3
                clear hi324_3 hl324_3
                have HR324_4 := Aside0.mk hi324_4
                have HC324_4 := Aside0.mk hl324_4
                clear hi324_4 hl324_4
                replace p324 := eq_true p324
                replace q324 := eq_true q324
                have ea_ := Option.some.inj (hx323_2.symm.trans hx324_2)
                injection ea_ with ea_ en_ ec_
                subst ea_
                subst ec_
                clear en_
                have ea_ := Option.some.inj (hx323_3.symm.trans hx324_3)
                injection ea_ with ea_ en_ ec_
                subst ea_
                subst ec_
                clear en_
                have ea_ := Option.some.inj (hx323_4.symm.trans hx324_4)
                injection ea_ with ea_ en_ ec_
                subst ea_
                subst ec_
                clear en_
                go_wp2
                go_roundg k1
                case measure => have := HK1.out; omega
                case rel => exact ⟨(wrap64 (x6_1 + (((rd_T30 l1 x21_1).f2).length : Int))), (x7_1), (wrap64 (x21_1 + 1)), (by first | rfl | (simp; done) | (simp [*]; done)), (by first | rfl | (simp; done) | (simp [*]; done)), (by first | rfl | (simp; done) | (simp [*]; done)), H', ⟨by have := HK1.out; omega⟩, ⟨by (with_reducible repeat (first | apply Kd.S_alloc | apply Kd.S_drewN | apply Kd.S_drew)); exact HO_5.out⟩, ⟨by repeat (first | (with_reducible first | exact HB.out | apply below_alloc | apply pw_below_drewN | apply below_drew1) | exact HB.out | exact Below.refl _ _)⟩⟩
            · rw [if_neg c10] at H
              exact absurd H (by simp)
          · rw [if_neg c9] at H
            exact absurd H (by simp)
        · rw [if_neg c8] at H
          have c8b0 : decide (x21_1 < (l1.length : Int)) = false := decide_eq_false c8
          clear c8
          have H' := Aside0.mk H
          clear H
          obtain ⟨Ao12, co12, eo12⟩ := Kd.S_slice HO_5.out
          subst eo12
          go_wp2
          go_loopg [8, 9, 48] k1 (fun kq v8 v9 v48 w' => ∃ (x8_2 : Int) (x9_2 : Int) (x48_2 : Int), v8 = .int .i64 x8_2 ∧ v9 = .int .i64 x9_2 ∧ v48 = .int .i64 x48_2 ∧ Aside0 (rubriclaw16_NormalShort.l1 kq l1 t320 x6_1 x7_1 x8_2 x9_2 (t320.length : Int) x48_2 = some r) ∧ Aside0 (kq ≤ k1) ∧ Aside0 (Kd.S k30 30 w' w.heap.size (fun _ => True) (.slice Ao12 t320.length co12) t320) ∧ Aside0 (Below w.heap.size w w'))
          case atStart => exact ⟨(0), (0), (0), (by first | rfl | (simp; done) | (simp [*]; done)), (by first | rfl | (simp; done) | (simp [*]; done)), (by first | rfl | (simp; done) | (simp [*]; done)), H', ⟨Nat.le_refl _⟩, ⟨by (with_reducible repeat (first | apply Kd.S_alloc | apply Kd.S_drewN | apply Kd.S_drew)); exact HO_5.out⟩, ⟨by repeat (first | (with_reducible first | exact HB.out | apply below_alloc | apply pw_below_drewN | apply below_drew1) | exact HB.out | exact Below.refl _ _)⟩⟩
          case round =>
            clear H'
            try clear c1
            try clear p2
            try clear c3
            try clear p3
            try clear q3
            try clear hx3
            try clear c4
            try clear p6
            try clear c8
            try clear c8b0
            try clear c8e
            try clear c8b0d c8b0p
            try clear c8b0d
            try clear c9
            try clear c9b0
            try clear c9e
            try clear c9b0d c9b0p
            try clear c9b0d
            try clear c10
            try clear c10b0
            try clear c10e
            try clear c10b0d c10b0p
            try clear c10b0d
            try clear c11
            try clear c11b0
            try clear c11e
            try clear c11b0d c11b0p
            try clear c11b0d
            try clear c11b1
            try clear c11b1d c11b1p
            try clear c11b1d
            try clear c12
            try clear hx323_0
            try clear hx323_1
            try clear hx323_2
            try clear hx323_3
            try clear hx323_4
            try clear hx324_0
            try clear hx324_1
            try clear hx324_2
            try clear hx324_3
            try clear hx324_4
            try clear hx325_0
            try clear hx325_1
            try clear hx325_2
            try clear hx325_3
            try clear hx325_4
            try clear p2
            try clear p323
            try clear p324
            try clear p325
            try clear q323
            try clear q324
            try clear q325
            obtain ⟨x8_2, x9_2, x48_2, rfl, rfl, rfl, HA, HK2, HO_5, HB⟩ := hrel
            cases gk with
            | zero => exact absurd HA.out (by simp [rubriclaw16_NormalShort.l1])
            | succ k2 =>
              have H := HA.out
              clear HA
              simp only [rubriclaw16_NormalShort.l1] at H
              by_cases c13 : x48_2 < (t320.length : Int)
              · rw [if_pos c13] at H
                have c13b0 : decide (x48_2 < (t320.length : Int)) = true := decide_eq_true c13
                clear c13
                by_cases c14 : 0 ≤ x48_2
                · rw [if_pos c14] at H
                  have c14b0 : decide (0 ≤ x48_2) = true := decide_eq_true c14
                  clear c14
                  by_cases c15 : x48_2 < (t320.length : Int)
                  · rw [if_pos c15] at H
                    have c15b0 : decide (x48_2 < (t320.length : Int)) = true := decide_eq_true c15
                    clear c15
                    by_cases c16 : ((rd_T30 t320 x48_2).f0) = 3
                    · rw [if_pos c16] at H
                      have c16b0 : (((rd_T30 t320 x48_2).f0) == 3) = true := beq_iff_eq.mpr c16
                      have c16b1 : (((rd_T30 t320 x48_2).f0) != 3) = false := bne_eq_false_iff_eq.mpr c16
                      clear c16
                      have H' := Aside0.mk H
                      clear H
                      have p326 : 0 ≤ (x48_2 : Int) := of_decide_eq_true (by first | (with_reducible assumption) | assumption)
                      have q326 : x48_2 < (t320.length : Int) := of_decide_eq_true (by first | (with_reducible assumption) | assumption)
                      obtain ⟨ad326, A326_2, c326_2, A326_3, c326_3, A326_4, c326_4, e326, hx326_0, hx326_1, hx326_2, hx326_3, hx326_4, hl326_2, hi326_2, hl326_3, hi326_3, hl326_4, hi326_4⟩ := at_T30 (Kd.S_reads' HO_5.out).2.2 x48_2 p326 q326
                      cases e326
                      obtain ⟨ce326, hce326, hMe326, hcc326⟩ := Kd.S_get HO_5.out z30 x48_2 p326 (by first | exact q326 | exact of_decide_eq_true (by first | (with_reducible assumption) | assumption) | (have e_ := (Kd.S_reads' HO_5.out).1; omega))
                      obtain ⟨ve326_2, ve326_3, ve326_4, rfl, ge326_2, ge326_3, ge326_4⟩ := k30_openM hMe326
                      have hv326_2 := hcc326 2 _ rfl
                      rw [add_field _ _ 2 (by omega)] at hv326_2
                      replace hv326_2 := Option.some.inj (hv326_2.symm.trans hx326_2)
                      rw [hv326_2] at ge326_2
                      have HL326_2 := Aside0.mk (show Kd.R (Kd.int .i32) 21 _ _ _ _ ((rd_T30 t320 x48_2).f2) from ge326_2)
                      clear hv326_2 ge326_2
                      have hv326_3 := hcc326 3 _ rfl
                      rw [add_field _ _ 3 (by omega)] at hv326_3
                      replace hv326_3 := Option.some.inj (hv326_3.symm.trans hx326_3)
                      rw [hv326_3] at ge326_3
                      have HL326_3 := Aside0.mk (show Kd.R k40 40 _ _ _ _ ((rd_T30 t320 x48_2).f3) from ge326_3)
                      clear hv326_3 ge326_3
                      have hv326_4 := hcc326 4 _ rfl
                      rw [add_field _ _ 4 (by omega)] at hv326_4
                      replace hv326_4 := Option.some.inj (hv326_4.symm.trans hx326_4)
                      rw [hv326_4] at ge326_4
                      have HL326_4 := Aside0.mk (show Kd.R k42 42 _ _ _ _ ((rd_T30 t320 x48_2).f4) from ge326_4)
                      clear hv326_4 ge326_4
                      clear hcc326 hce326
                      have HR326_2 := Aside0.mk hi326_2
                      have HC326_2 := Aside0.mk hl326_2
                      clear hi326_2 hl326_2
                      have HR326_3 := Aside0.mk hi326_3
                      have HC326_3 := Aside0.mk hl326_3
                      clear hi326_3 hl326_3
                      have HR326_4 := Aside0.mk hi326_4
                      have HC326_4 := Aside0.mk hl326_4
                      clear hi326_4 hl326_4
                      replace p326 := eq_true p326
                      replace q326 := eq_true q326
                      have p327 : 0 ≤ (x48_2 : Int) := of_decide_eq_true (by first | (with_reducible assumption) | assumption)
                      have q327 : x48_2 < (t320.length : Int) := of_decide_eq_true (by first | (with_reducible assumption) | assumption)
                      obtain ⟨ad327, A327_2, c327_2, A327_3, c327_3, A327_4, c327_4, e327, hx327_0, hx327_1, hx327_2, hx327_3, hx327_4, hl327_2, hi327_2, hl327_3, hi327_3, hl327_4, hi327_4⟩ := at_T30 (Kd.S_reads' HO_5.out).2.2 x48_2 p327 q327
                      obtain rfl : ad326 = ad327 := (by injection e327)
                      obtain ⟨ce327, hce327, hMe327, hcc327⟩ := Kd.S_get HO_5.out z30 x48_2 p327 (by first | exact q327 | exact of_decide_eq_true (by first | (with_reducible assumption) | assumption) | (have e_ := (Kd.S_reads' HO_5.out).1; omega))
                      obtain ⟨ve327_2, ve327_3, ve327_4, rfl, ge327_2, ge327_3, ge327_4⟩ := k30_openM hMe327
                      have hv327_2 := hcc327 2 _ rfl
                      rw [add_field _ _ 2 (by omega)] at hv327_2
                      replace hv327_2 := Option.some.inj (hv327_2.symm.trans hx327_2)
                      rw [hv327_2] at ge327_2
                      have HL327_2 := Aside0.mk (show Kd.R (Kd.int .i32) 21 _ _ _ _ ((rd_T30 t320 x48_2).f2) from ge327_2)
                      clear hv327_2 ge327_2
                      have hv327_3 := hcc327 3 _ rfl
                      rw [add_field _ _ 3 (by omega)] at hv327_3
                      replace hv327_3 := Option.some.inj (hv327_3.symm.trans hx327_3)
                      rw [hv327_3] at ge327_3
                      have HL327_3 := Aside0.mk (show Kd.R k40 40 _ _ _ _ ((rd_T30 t320 x48_2).f3) from ge327_3)
                      clear hv327_3 ge327_3
                      have hv327_4 := hcc327 4 _ rfl
                      rw [add_field _ _ 4 (by omega)] at hv327_4
                      replace hv327_4 := Option.some.inj (hv327_4.symm.trans hx327_4)
                      rw [hv327_4] at ge327_4
                      have HL327_4 := Aside0.mk (show Kd.R k42 42 _ _ _ _ ((rd_T30 t320 x48_2).f4) from ge327_4)
                      clear hv327_4 ge327_4
                      clear hcc327 hce327
                      have HR327_2 := Aside0.mk hi327_2
                      have HC327_2 := Aside0.mk hl327_2
                      clear hi327_2 hl327_2
                      have HR327_3 := Aside0.mk hi327_3
                      have HC327_3 := Aside0.mk hl327_3
                      clear hi327_3 hl327_3
                      have HR327_4 := Aside0.mk hi327_4
                      have HC327_4 := Aside0.mk hl327_4
                      clear hi327_4 hl327_4
                      replace p327 := eq_true p327
                      replace q327 := eq_true q327
                      have ea_ := Option.some.inj (hx326_2.symm.trans hx327_2)
                      injection ea_ with ea_ en_ ec_
                      subst ea_
                      subst ec_
                      clear en_
                      have ea_ := Option.some.inj (hx326_3.symm.trans hx327_3)
                      injection ea_ with ea_ en_ ec_
                      subst ea_
                      subst ec_
                      clear en_
                      have ea_ := Option.some.inj (hx326_4.symm.trans hx327_4)
                      injection ea_ with ea_ en_ ec_
                      subst ea_
                      subst ec_
                      clear en_
                      have p328 : 0 ≤ (x48_2 : Int) := of_decide_eq_true (by first | (with_reducible assumption) | assumption)
                      have q328 : x48_2 < (t320.length : Int) := of_decide_eq_true (by first | (with_reducible assumption) | assumption)
                      obtain ⟨ad328, A328_2, c328_2, A328_3, c328_3, A328_4, c328_4, e328, hx328_0, hx328_1, hx328_2, hx328_3, hx328_4, hl328_2, hi328_2, hl328_3, hi328_3, hl328_4, hi328_4⟩ := at_T30 (Kd.S_reads' HO_5.out).2.2 x48_2 p328 q328
                      obtain rfl : ad326 = ad328 := (by injection e328)
                      obtain ⟨ce328, hce328, hMe328, hcc328⟩ := Kd.S_get HO_5.out z30 x48_2 p328 (by first | exact q328 | exact of_decide_eq_true (by first | (with_reducible assumption) | assumption) | (have e_ := (Kd.S_reads' HO_5.out).1; omega))
                      obtain ⟨ve328_2, ve328_3, ve328_4, rfl, ge328_2, ge328_3, ge328_4⟩ := k30_openM hMe328
                      have hv328_2 := hcc328 2 _ rfl
                      rw [add_field _ _ 2 (by omega)] at hv328_2
                      replace hv328_2 := Option.some.inj (hv328_2.symm.trans hx328_2)
                      rw [hv328_2] at ge328_2
                      have HL328_2 := Aside0.mk (show Kd.R (Kd.int .i32) 21 _ _ _ _ ((rd_T30 t320 x48_2).f2) from ge328_2)
                      clear hv328_2 ge328_2
                      have hv328_3 := hcc328 3 _ rfl
                      rw [add_field _ _ 3 (by omega)] at hv328_3
                      replace hv328_3 := Option.some.inj (hv328_3.symm.trans hx328_3)
                      rw [hv328_3] at ge328_3
                      have HL328_3 := Aside0.mk (show Kd.R k40 40 _ _ _ _ ((rd_T30 t320 x48_2).f3) from ge328_3)
                      clear hv328_3 ge328_3
                      have hv328_4 := hcc328 4 _ rfl
                      rw [add_field _ _ 4 (by omega)] at hv328_4
                      replace hv328_4 := Option.some.inj (hv328_4.symm.trans hx328_4)
                      rw [hv328_4] at ge328_4
                      have HL328_4 := Aside0.mk (show Kd.R k42 42 _ _ _ _ ((rd_T30 t320 x48_2).f4) from ge328_4)
                      clear hv328_4 ge328_4
                      clear hcc328 hce328
                      have HR328_2 := Aside0.mk hi328_2
                      have HC328_2 := Aside0.mk hl328_2
                      clear hi328_2 hl328_2
                      have HR328_3 := Aside0.mk hi328_3
                      have HC328_3 := Aside0.mk hl328_3
                      clear hi328_3 hl328_3
                      have HR328_4 := Aside0.mk hi328_4
                      have HC328_4 := Aside0.mk hl328_4
                      clear hi328_4 hl328_4
                      replace p328 := eq_true p328
                      replace q328 := eq_true q328
                      have ea_ := Option.some.inj (hx326_2.symm.trans hx328_2)
                      injection ea_ with ea_ en_ ec_
                      subst ea_
                      subst ec_
                      clear en_
                      have ea_ := Option.some.inj (hx326_3.symm.trans hx328_3)
                      injection ea_ with ea_ en_ ec_
                      subst ea_
                      subst ec_
                      clear en_
                      have ea_ := Option.some.inj (hx326_4.symm.trans hx328_4)
                      injection ea_ with ea_ en_ ec_
                      subst ea_
                      subst ec_
                      clear en_
                      go_wp2
                      go_roundg k2
                      case measure => have := HK1.out; have := HK2.out; omega
                      case rel => exact ⟨(wrap64 (x8_2 + (((rd_T30 t320 x48_2).f2).length : Int))), (wrap64 (x9_2 + ((rd_T30 t320 x48_2).f1))), (wrap64 (x48_2 + 1)), (by first | rfl | (simp; done) | (simp [*]; done)), (by first | rfl | (simp; done) | (simp [*]; done)), (by first | rfl | (simp; done) | (simp [*]; done)), H', ⟨by have := HK1.out; have := HK2.out; omega⟩, ⟨by (with_reducible repeat (first | apply Kd.S_alloc | apply Kd.S_drewN | apply Kd.S_drew)); exact HO_5.out⟩, ⟨by repeat (first | (with_reducible first | exact HB.out | apply below_alloc | apply pw_below_drewN | apply below_drew1) | exact HB.out | exact Below.refl _ _)⟩⟩
                    · rw [if_neg c16] at H
                      have c16b0 : (((rd_T30 t320 x48_2).f0) == 3) = false := beq_eq_false_iff_ne.mpr c16
                      have c16b1 : (((rd_T30 t320 x48_2).f0) != 3) = true := bne_iff_ne.mpr c16
                      have H' := Aside0.mk H
                      clear H
                      have p326 : 0 ≤ (x48_2 : Int) := of_decide_eq_true (by first | (with_reducible assumption) | assumption)
                      have q326 : x48_2 < (t320.length : Int) := of_decide_eq_true (by first | (with_reducible assumption) | assumption)
                      obtain ⟨ad326, A326_2, c326_2, A326_3, c326_3, A326_4, c326_4, e326, hx326_0, hx326_1, hx326_2, hx326_3, hx326_4, hl326_2, hi326_2, hl326_3, hi326_3, hl326_4, hi326_4⟩ := at_T30 (Kd.S_reads' HO_5.out).2.2 x48_2 p326 q326
                      cases e326
                      obtain ⟨ce326, hce326, hMe326, hcc326⟩ := Kd.S_get HO_5.out z30 x48_2 p326 (by first | exact q326 | exact of_decide_eq_true (by first | (with_reducible assumption) | assumption) | (have e_ := (Kd.S_reads' HO_5.out).1; omega))
                      obtain ⟨ve326_2, ve326_3, ve326_4, rfl, ge326_2, ge326_3, ge326_4⟩ := k30_openM hMe326
                      have hv326_2 := hcc326 2 _ rfl
                      rw [add_field _ _ 2 (by omega)] at hv326_2
                      replace hv326_2 := Option.some.inj (hv326_2.symm.trans hx326_2)
                      rw [hv326_2] at ge326_2
                      have HL326_2 := Aside0.mk (show Kd.R (Kd.int .i32) 21 _ _ _ _ ((rd_T30 t320 x48_2).f2) from ge326_2)
                      clear hv326_2 ge326_2
                      have hv326_3 := hcc326 3 _ rfl
                      rw [add_field _ _ 3 (by omega)] at hv326_3
                      replace hv326_3 := Option.some.inj (hv326_3.symm.trans hx326_3)
                      rw [hv326_3] at ge326_3
                      have HL326_3 := Aside0.mk (show Kd.R k40 40 _ _ _ _ ((rd_T30 t320 x48_2).f3) from ge326_3)
                      clear hv326_3 ge326_3
                      have hv326_4 := hcc326 4 _ rfl
                      rw [add_field _ _ 4 (by omega)] at hv326_4
                      replace hv326_4 := Option.some.inj (hv326_4.symm.trans hx326_4)
                      rw [hv326_4] at ge326_4
                      have HL326_4 := Aside0.mk (show Kd.R k42 42 _ _ _ _ ((rd_T30 t320 x48_2).f4) from ge326_4)
                      clear hv326_4 ge326_4
                      clear hcc326 hce326
                      have HR326_2 := Aside0.mk hi326_2
                      have HC326_2 := Aside0.mk hl326_2
                      clear hi326_2 hl326_2
                      have HR326_3 := Aside0.mk hi326_3
                      have HC326_3 := Aside0.mk hl326_3
                      clear hi326_3 hl326_3
                      have HR326_4 := Aside0.mk hi326_4
                      have HC326_4 := Aside0.mk hl326_4
                      clear hi326_4 hl326_4
                      replace p326 := eq_true p326
                      replace q326 := eq_true q326
                      have p327 : 0 ≤ (x48_2 : Int) := of_decide_eq_true (by first | (with_reducible assumption) | assumption)
                      have q327 : x48_2 < (t320.length : Int) := of_decide_eq_true (by first | (with_reducible assumption) | assumption)
                      obtain ⟨ad327, A327_2, c327_2, A327_3, c327_3, A327_4, c327_4, e327, hx327_0, hx327_1, hx327_2, hx327_3, hx327_4, hl327_2, hi327_2, hl327_3, hi327_3, hl327_4, hi327_4⟩ := at_T30 (Kd.S_reads' HO_5.out).2.2 x48_2 p327 q327
                      obtain rfl : ad326 = ad327 := (by injection e327)
                      obtain ⟨ce327, hce327, hMe327, hcc327⟩ := Kd.S_get HO_5.out z30 x48_2 p327 (by first | exact q327 | exact of_decide_eq_true (by first | (with_reducible assumption) | assumption) | (have e_ := (Kd.S_reads' HO_5.out).1; omega))
                      obtain ⟨ve327_2, ve327_3, ve327_4, rfl, ge327_2, ge327_3, ge327_4⟩ := k30_openM hMe327
                      have hv327_2 := hcc327 2 _ rfl
                      rw [add_field _ _ 2 (by omega)] at hv327_2
                      replace hv327_2 := Option.some.inj (hv327_2.symm.trans hx327_2)
                      rw [hv327_2] at ge327_2
                      have HL327_2 := Aside0.mk (show Kd.R (Kd.int .i32) 21 _ _ _ _ ((rd_T30 t320 x48_2).f2) from ge327_2)
                      clear hv327_2 ge327_2
                      have hv327_3 := hcc327 3 _ rfl
                      rw [add_field _ _ 3 (by omega)] at hv327_3
                      replace hv327_3 := Option.some.inj (hv327_3.symm.trans hx327_3)
                      rw [hv327_3] at ge327_3
                      have HL327_3 := Aside0.mk (show Kd.R k40 40 _ _ _ _ ((rd_T30 t320 x48_2).f3) from ge327_3)
                      clear hv327_3 ge327_3
                      have hv327_4 := hcc327 4 _ rfl
                      rw [add_field _ _ 4 (by omega)] at hv327_4
                      replace hv327_4 := Option.some.inj (hv327_4.symm.trans hx327_4)
                      rw [hv327_4] at ge327_4
                      have HL327_4 := Aside0.mk (show Kd.R k42 42 _ _ _ _ ((rd_T30 t320 x48_2).f4) from ge327_4)
                      clear hv327_4 ge327_4
                      clear hcc327 hce327
                      have HR327_2 := Aside0.mk hi327_2
                      have HC327_2 := Aside0.mk hl327_2
                      clear hi327_2 hl327_2
                      have HR327_3 := Aside0.mk hi327_3
                      have HC327_3 := Aside0.mk hl327_3
                      clear hi327_3 hl327_3
                      have HR327_4 := Aside0.mk hi327_4
                      have HC327_4 := Aside0.mk hl327_4
                      clear hi327_4 hl327_4
                      replace p327 := eq_true p327
                      replace q327 := eq_true q327
                      have ea_ := Option.some.inj (hx326_2.symm.trans hx327_2)
                      injection ea_ with ea_ en_ ec_
                      subst ea_
                      subst ec_
                      clear en_
                      have ea_ := Option.some.inj (hx326_3.symm.trans hx327_3)
                      injection ea_ with ea_ en_ ec_
                      subst ea_
                      subst ec_
                      clear en_
                      have ea_ := Option.some.inj (hx326_4.symm.trans hx327_4)
                      injection ea_ with ea_ en_ ec_
                      subst ea_
                      subst ec_
                      clear en_
                      go_wp2
                      go_roundg k2
                      case measure => have := HK1.out; have := HK2.out; omega
                      case rel => exact ⟨(wrap64 (x8_2 + (((rd_T30 t320 x48_2).f2).length : Int))), (x9_2), (wrap64 (x48_2 + 1)), (by first | rfl | (simp; done) | (simp [*]; done)), (by first | rfl | (simp; done) | (simp [*]; done)), (by first | rfl | (simp; done) | (simp [*]; done)), H', ⟨by have := HK1.out; have := HK2.out; omega⟩, ⟨by (with_reducible repeat (first | apply Kd.S_alloc | apply Kd.S_drewN | apply Kd.S_drew)); exact HO_5.out⟩, ⟨by repeat (first | (with_reducible first | exact HB.out | apply below_alloc | apply pw_below_drewN | apply below_drew1) | exact HB.out | exact Below.refl _ _)⟩⟩
                  · rw [if_neg c15] at H
                    exact absurd H (by simp)
                · rw [if_neg c14] at H
                  exact absurd H (by simp)
              · rw [if_neg c13] at H
                have c13b0 : decide (x48_2 < (t320.length : Int)) = false := decide_eq_false c13
                clear c13
                by_cases c17 : (t320.length : Int) ≤ (l1.length : Int)
                · rw [if_pos c17] at H
                  have c17b0 : decide ((t320.length : Int) ≤ (l1.length : Int)) = true := decide_eq_true c17
                  have c17b1 : decide (t320.length ≤ l1.length) = true := decide_eq_true (Int.ofNat_le.mp c17)
                  clear c17
                  by_cases c18 : x6_1 = x8_2
                  · rw [if_pos c18] at H
                    have c18b0 : (x6_1 == x8_2) = true := beq_iff_eq.mpr c18
                    have c18b1 : (x6_1 != x8_2) = false := bne_eq_false_iff_eq.mpr c18
                    clear c18
                    by_cases c19 : x7_1 = x9_2
                    · rw [if_pos c19] at H
                      have c19b0 : (x7_1 == x9_2) = true := beq_iff_eq.mpr c19
                      have c19b1 : (x7_1 != x9_2) = false := bne_eq_false_iff_eq.mpr c19
                      clear c19
                      replace H := Option.bind_eq_some_iff.mp H
                      obtain ⟨t329, A200, H⟩ := H
                      replace H : ((ops_Same.f t320 l1).bind fun t330 => (if (t329 == t330) = true then ((rubriclaw16_known.f).bind fun t331 => (some t331)) else (some false))) = some r := H
                      have A20 := Aside0.mk A200
                      clear A200
                      replace H := Option.bind_eq_some_iff.mp H
                      obtain ⟨t330, A210, H⟩ := H
                      replace H : (if (t329 == t330) = true then ((rubriclaw16_known.f).bind fun t331 => (some t331)) else (some false)) = some r := H
                      have A21 := Aside0.mk A210
                      clear A210
                      by_cases c22 : (t329 == t330) = true
                      · rw [if_pos c22] at H
                        have c22b0 : (t329 == t330) = true := c22
                        (try (have c22b1 : decide (t329 = t330) = true := by simpa using c22))
                        (try (have c22b2 : (t329 == t330) = true := by simpa using c22))
                        clear c22
                        replace H := Option.bind_eq_some_iff.mp H
                        obtain ⟨t331, A230, H⟩ := H
                        replace H : (some t331) = some r := H
                        have A23 := Aside0.mk A230
                        clear A230
                        obtain rfl := Option.some.inj H
                        go_wp2_with (first | (go_at_call 13; (with_reducible refine (normal_Is.calls _ _ l1 t329 _ ?side1 ?side2 A20.out).mono ?_); (case side1 => repeat (first | exact (Kd.C_below HR1.out HB.out) | (with_reducible refine Kd.C_alloc ?_ _) | (with_reducible refine Kd.C_drewN ?_ _) | (with_reducible refine Kd.C_drew ?_))); (case side2 => exact HC1.out); rintro e w24 ⟨rfl, hb⟩; have n0_ := Aside0.mk (Kd.S_below (by (with_reducible repeat (first | apply Kd.S_alloc | apply Kd.S_drewN | apply Kd.S_drew)); exact HO_5.out) hb); have n1_ := Aside0.mk (below_step (by repeat (first | (with_reducible first | exact HB.out | apply below_alloc | apply pw_below_drewN | apply below_drew1) | exact HB.out | exact Below.refl _ _)) hb); clear HO_5; clear HB; have HO_5 := n0_; have HB := n1_; clear n0_ n1_; (try clear hb); (try clear hb2); (try clear hk); (try clear hi)) | (go_at_call 11; (with_reducible refine (ops_Same.calls _ _ t320 _ _ l1 t330 _ ?side1 ?side2 ?side3 ?side4 A21.out).mono ?_); (case side1 => repeat (first | exact (Kd.S_reads' HO_5.out).2.2 | (with_reducible refine Kd.C_alloc ?_ _) | (with_reducible refine Kd.C_drewN ?_ _) | (with_reducible refine Kd.C_drew ?_))); (case side2 => exact (Kd.S_reads' HO_5.out).2.1); (case side3 => repeat (first | exact (Kd.C_below HR1.out HB.out) | (with_reducible refine Kd.C_alloc ?_ _) | (with_reducible refine Kd.C_drewN ?_ _) | (with_reducible refine Kd.C_drew ?_))); (case side4 => exact HC1.out); rintro e w25 ⟨rfl, hb⟩; have n0_ := Aside0.mk (Kd.S_below (by (with_reducible repeat (first | apply Kd.S_alloc | apply Kd.S_drewN | apply Kd.S_drew)); exact HO_5.out) hb); have n1_ := Aside0.mk (below_step (by repeat (first | (with_reducible first | exact HB.out | apply below_alloc | apply pw_below_drewN | apply below_drew1) | exact HB.out | exact Below.refl _ _)) hb); clear HO_5; clear HB; have HO_5 := n0_; have HB := n1_; clear n0_ n1_; (try clear hb); (try clear hb2); (try clear hk); (try clear hi)) | (go_at_call 9; (with_reducible refine (rubriclaw16_known.calls  t331 _ A23.out).mono ?_); rintro e w26 ⟨rfl, hb⟩; have n0_ := Aside0.mk (Kd.S_below (by (with_reducible repeat (first | apply Kd.S_alloc | apply Kd.S_drewN | apply Kd.S_drew)); exact HO_5.out) hb); have n1_ := Aside0.mk (below_step (by repeat (first | (with_reducible first | exact HB.out | apply below_alloc | apply pw_below_drewN | apply below_drew1) | exact HB.out | exact Below.refl _ _)) hb); clear HO_5; clear HB; have HO_5 := n0_; have HB := n1_; clear n0_ n1_; (try clear hb); (try clear hb2); (try clear hk); (try clear hi)))
                        go_ret
                        exact ⟨by first | rfl | (simp [errW_none, errW_some] <;> rfl) | (simp [*, errW_none, errW_some] <;> rfl), by repeat (first | (with_reducible first | exact HB.out | apply below_alloc | apply pw_below_drewN | apply below_drew1) | exact HB.out | exact Below.refl _ _)⟩
                      · rw [if_neg c22] at H
                        have c22b0 : (t329 == t330) = false := by simpa using c22
                        (try (have c22b1 : decide (t329 = t330) = false := by simpa using c22))
                        (try (have c22b2 : (t329 == t330) = false := by simpa using c22))
                        (try (have c22b3 : ¬ (t329 = t330) := by simpa using c22))
                        clear c22
                        obtain rfl := Option.some.inj H
                        go_wp2_with (first | (go_at_call 13; (with_reducible refine (normal_Is.calls _ _ l1 t329 _ ?side1 ?side2 A20.out).mono ?_); (case side1 => repeat (first | exact (Kd.C_below HR1.out HB.out) | (with_reducible refine Kd.C_alloc ?_ _) | (with_reducible refine Kd.C_drewN ?_ _) | (with_reducible refine Kd.C_drew ?_))); (case side2 => exact HC1.out); rintro e w27 ⟨rfl, hb⟩; have n0_ := Aside0.mk (Kd.S_below (by (with_reducible repeat (first | apply Kd.S_alloc | apply Kd.S_drewN | apply Kd.S_drew)); exact HO_5.out) hb); have n1_ := Aside0.mk (below_step (by repeat (first | (with_reducible first | exact HB.out | apply below_alloc | apply pw_below_drewN | apply below_drew1) | exact HB.out | exact Below.refl _ _)) hb); clear HO_5; clear HB; have HO_5 := n0_; have HB := n1_; clear n0_ n1_; (try clear hb); (try clear hb2); (try clear hk); (try clear hi)) | (go_at_call 11; (with_reducible refine (ops_Same.calls _ _ t320 _ _ l1 t330 _ ?side1 ?side2 ?side3 ?side4 A21.out).mono ?_); (case side1 => repeat (first | exact (Kd.S_reads' HO_5.out).2.2 | (with_reducible refine Kd.C_alloc ?_ _) | (with_reducible refine Kd.C_drewN ?_ _) | (with_reducible refine Kd.C_drew ?_))); (case side2 => exact (Kd.S_reads' HO_5.out).2.1); (case side3 => repeat (first | exact (Kd.C_below HR1.out HB.out) | (with_reducible refine Kd.C_alloc ?_ _) | (with_reducible refine Kd.C_drewN ?_ _) | (with_reducible refine Kd.C_drew ?_))); (case side4 => exact HC1.out); rintro e w28 ⟨rfl, hb⟩; have n0_ := Aside0.mk (Kd.S_below (by (with_reducible repeat (first | apply Kd.S_alloc | apply Kd.S_drewN | apply Kd.S_drew)); exact HO_5.out) hb); have n1_ := Aside0.mk (below_step (by repeat (first | (with_reducible first | exact HB.out | apply below_alloc | apply pw_below_drewN | apply below_drew1) | exact HB.out | exact Below.refl _ _)) hb); clear HO_5; clear HB; have HO_5 := n0_; have HB := n1_; clear n0_ n1_; (try clear hb); (try clear hb2); (try clear hk); (try clear hi)))
                        go_ret
                        exact ⟨by first | rfl | (simp [errW_none, errW_some] <;> rfl) | (simp [*, errW_none, errW_some] <;> rfl), by repeat (first | (with_reducible first | exact HB.out | apply below_alloc | apply pw_below_drewN | apply below_drew1) | exact HB.out | exact Below.refl _ _)⟩
                    · rw [if_neg c19] at H
                      have c19b0 : (x7_1 == x9_2) = false := beq_eq_false_iff_ne.mpr c19
                      have c19b1 : (x7_1 != x9_2) = true := bne_iff_ne.mpr c19
                      obtain rfl := Option.some.inj H
                      go_wp2
                      go_ret
                      exact ⟨by first | rfl | (simp [errW_none, errW_some] <;> rfl) | (simp [*, errW_none, errW_some] <;> rfl), by repeat (first | (with_reducible first | exact HB.out | apply below_alloc | apply pw_below_drewN | apply below_drew1) | exact HB.out | exact Below.refl _ _)⟩
                  · rw [if_neg c18] at H
                    have c18b0 : (x6_1 == x8_2) = false := beq_eq_false_iff_ne.mpr c18
                    have c18b1 : (x6_1 != x8_2) = true := bne_iff_ne.mpr c18
                    obtain rfl := Option.some.inj H
                    go_wp2
                    go_ret
                    exact ⟨by first | rfl | (simp [errW_none, errW_some] <;> rfl) | (simp [*, errW_none, errW_some] <;> rfl), by repeat (first | (with_reducible first | exact HB.out | apply below_alloc | apply pw_below_drewN | apply below_drew1) | exact HB.out | exact Below.refl _ _)⟩
                · rw [if_neg c17] at H
                  have c17b0 : decide ((t320.length : Int) ≤ (l1.length : Int)) = false := decide_eq_false c17
                  have c17b1 : decide (t320.length ≤ l1.length) = false := decide_eq_false (fun h => c17 (Int.ofNat_le.mpr h))
                  clear c17
                  obtain rfl := Option.some.inj H
                  go_wp2
                  go_ret
                  exact ⟨by first | rfl | (simp [errW_none, errW_some] <;> rfl) | (simp [*, errW_none, errW_some] <;> rfl), by repeat (first | (with_reducible first | exact HB.out | apply below_alloc | apply pw_below_drewN | apply below_drew1) | exact HB.out | exact Below.refl _ _)⟩
  · replace c4 := Bool.eq_false_iff.mpr c4
    subst c4
    have H1 : ((rubriclaw16_known.f).bind fun t319 => (some t319)) = some r := by rw [if_neg (show ¬ (false = true) by decide)] at H; exact H
    clear H
    have H := H1
    clear H1
    replace H := Option.bind_eq_some_iff.mp H
    obtain ⟨t319, A290, H⟩ := H
    replace H : (some t319) = some r := H
    have A29 := Aside0.mk A290
    clear A290
    obtain rfl := Option.some.inj H
    go_enter Try.func4, Try.ntmps4
    go_wp2_with (first | ((with_reducible refine gate_callee (f := 8) rfl ?_); refine goesL_ (some 14) rfl rfl Try.func8 (by kernel_rfl) rfl #[.slice A0 l0.length c0, .slice A1 l1.length c1] rfl (by (try simp only [List.map_toArray, List.map_cons, List.map_nil]); first | done | rfl | (simp only [List.length_drop, List.length_take]; rfl)) ?_; (with_reducible refine (rubriclaw16_tame.calls k _ _ l0 _ _ l1 false _ ?side1 ?side2 ?side3 ?side4 A3.out).mono ?_); (case side1 => repeat (first | exact HR0.out | (with_reducible refine Kd.C_alloc ?_ _) | (with_reducible refine Kd.C_drewN ?_ _) | (with_reducible refine Kd.C_drew ?_))); (case side2 => exact HC0.out); (case side3 => repeat (first | exact HR1.out | (with_reducible refine Kd.C_alloc ?_ _) | (with_reducible refine Kd.C_drewN ?_ _) | (with_reducible refine Kd.C_drew ?_))); (case side4 => exact HC1.out); rintro e w30 ⟨rfl, hb⟩; refine ⟨_, rfl, ?_⟩; have n0_ := Aside0.mk (below_step (by repeat (first | (with_reducible first | exact HB.out | apply below_alloc | apply pw_below_drewN | apply below_drew1) | exact HB.out | exact Below.refl _ _)) hb); clear HB; have HB := n0_; clear n0_; (try clear hb); (try clear hb2); (try clear hk); (try clear hi)) | ((with_reducible refine gate_callee (f := 9) rfl ?_); refine goesL_ (some 16) rfl rfl Try.func9 (by kernel_rfl) rfl #[] rfl (by (try simp only [List.map_toArray, List.map_cons, List.map_nil]); first | done | rfl | (simp only [List.length_drop, List.length_take]; rfl)) ?_; (with_reducible refine (rubriclaw16_known.calls  t319 _ A29.out).mono ?_); rintro e w31 ⟨rfl, hb⟩; refine ⟨_, rfl, ?_⟩; have n0_ := Aside0.mk (below_step (by repeat (first | (with_reducible first | exact HB.out | apply below_alloc | apply pw_below_drewN | apply below_drew1) | exact HB.out | exact Below.refl _ _)) hb); clear HB; have HB := n0_; clear n0_; (try clear hb); (try clear hb2); (try clear hk); (try clear hi)))
    go_ret
    exact ⟨by first | rfl | (simp [errW_none, errW_some] <;> rfl) | (simp [*, errW_none, errW_some] <;> rfl), by repeat (first | (with_reducible first | exact HB.out | apply below_alloc | apply pw_below_drewN | apply below_drew1) | exact HB.out | exact Below.refl _ _)⟩

end Go.Proofs.Ytmjeoknamoegpaa.P
