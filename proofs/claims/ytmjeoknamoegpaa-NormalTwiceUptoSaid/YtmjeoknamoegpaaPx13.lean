-- laid by print.py over an altered print (wip/tools/pr.py); the walks of the altered functions are by hand
import Derived.Test.YtmjeoknamoegpaaPx0
import Derived.Test.YtmjeoknamoegpaaKnown
import Derived.Test.YtmjeoknamoegpaaOfN
import Derived.Test.YtmjeoknamoegpaaSameO
import Derived.Test.YtmjeoknamoegpaaPx11
import Derived.Test.YtmjeoknamoegpaaPx12
namespace Go.Proofs.Ytmjeoknamoegpaa.P
open Go.RowKit Go.Proofs.YtmjeoknamoegpaaW.PrintWords Go.Proofs.YtmjeoknamoegpaaW.PrintLast Go.Proofs.YtmjeoknamoegpaaW.PrintMore
attribute [local go_sem] max2_int min2_int max_two min_two max_three min_three max_four min_four   -- for this text's walks alone
set_option linter.unusedVariables false
set_option linter.unusedSimpArgs false

/-! ### rubriclaw16_NormalTwice: function 7 -/
mutual
def rubriclaw16_NormalTwice.l0 : Nat → List (S30) → Int → Int → Option (Bool)
  | 0, _, _, _ => none
  | k + 1, x5, x16, x17 => if x17 < x16 then (if x17 > 0 then (if 0 ≤ (wrap64 (x17 - 1)) then (if (wrap64 (x17 - 1)) < (x5.length : Int) then (if ((rd_T30 x5 (wrap64 (x17 - 1))).f0) = 3 then (if 0 ≤ x17 then (if x17 < (x5.length : Int) then (if ((rd_T30 x5 x17).f0) = 1 then (if ((rd_T30 x5 x17).f0) = 3 then (some false) else (rubriclaw16_NormalTwice.l0 k x5 x16 (wrap64 (x17 + 1)))) else (some false)) else (none)) else (none)) else (rubriclaw16_NormalTwice.l0 k x5 x16 (wrap64 (x17 + 1)))) else (none)) else (none)) else (rubriclaw16_NormalTwice.l0 k x5 x16 (wrap64 (x17 + 1)))) else (if (wrap64 ((x5.length : Int) - 1)) ≥ 0 then (if 0 ≤ (wrap64 ((x5.length : Int) - 1)) then (if (wrap64 ((x5.length : Int) - 1)) < (x5.length : Int) then (if ((rd_T30 x5 (wrap64 ((x5.length : Int) - 1))).f0) = 1 then (rubriclaw16_NormalTwice.j1 k x5 ((((rd_T30 x5 (wrap64 ((x5.length : Int) - 1))).f4).length : Int) == 0)) else (rubriclaw16_NormalTwice.j1 k x5 false)) else (none)) else (none)) else (rubriclaw16_NormalTwice.j1 k x5 false))
def rubriclaw16_NormalTwice.j1 : Nat → List (S30) → Bool → Option (Bool)
  | 0, _, _ => none
  | k + 1, x5, x78 => if x78 = true then (some false) else ((normal_Of.f x5).bind fun t313 => ((ops_Same.f t313 x5).bind fun t316 => (if t316 = true then ((rubriclaw16_known.f).bind fun t317 => (some t317)) else (some false))))
end
def rubriclaw16_NormalTwice.f (k : Nat) (l0 : List (S64)) (l1 : List (S30)) : Option (Bool) := (rubriclaw16_tame.f k l0 l1).bind fun t301 => (if t301 = true then ((normal_Of.f l1).bind fun t303 => (rubriclaw16_NormalTwice.l0 k t303 (t303.length : Int) 0)) else ((rubriclaw16_known.f).bind fun t302 => (some t302)))
theorem rubriclaw16_NormalTwice.mono_l : ∀ k, (∀ y0 y1 y2, LeO (rubriclaw16_NormalTwice.l0 k y0 y1 y2) (rubriclaw16_NormalTwice.l0 (k + 1) y0 y1 y2)) ∧ (∀ y0 y1, LeO (rubriclaw16_NormalTwice.j1 k y0 y1) (rubriclaw16_NormalTwice.j1 (k + 1) y0 y1))
  | 0 => ⟨fun _ _ _ r h => by simp [rubriclaw16_NormalTwice.l0] at h, fun _ _ r h => by simp [rubriclaw16_NormalTwice.j1] at h⟩
  | k + 1 => by
    obtain ⟨ih0, ih1⟩ := rubriclaw16_NormalTwice.mono_l k
    refine ⟨?_, ?_⟩
    · intro y0 y1 y2
      unfold rubriclaw16_NormalTwice.l0
      repeat' first
      | (with_reducible exact ih0 _ _ _)
      | (with_reducible exact ih1 _ _)
      | (with_reducible exact rubriclaw16_tame.mono _ _ _)
      | (with_reducible exact LeO.refl _)
      | (with_reducible exact LeO.none _)
      | (with_reducible refine LeO.ite ?_ ?_)
      | (with_reducible refine LeO.bind ?_ (fun _ => ?_))
      | exact ih0 _ _ _
      | exact ih1 _ _
      | exact rubriclaw16_tame.mono _ _ _
      | exact LeO.none _
      | refine LeO.ite ?_ ?_
      | refine LeO.bind ?_ (fun _ => ?_)
    · intro y0 y1
      unfold rubriclaw16_NormalTwice.j1
      repeat' first
      | (with_reducible exact ih0 _ _ _)
      | (with_reducible exact ih1 _ _)
      | (with_reducible exact rubriclaw16_tame.mono _ _ _)
      | (with_reducible exact LeO.refl _)
      | (with_reducible exact LeO.none _)
      | (with_reducible refine LeO.ite ?_ ?_)
      | (with_reducible refine LeO.bind ?_ (fun _ => ?_))
      | exact ih0 _ _ _
      | exact ih1 _ _
      | exact rubriclaw16_tame.mono _ _ _
      | exact LeO.none _
      | refine LeO.ite ?_ ?_
      | refine LeO.bind ?_ (fun _ => ?_)
theorem rubriclaw16_NormalTwice.mono : ∀ a0 a1 k, LeO (rubriclaw16_NormalTwice.f k a0 a1) (rubriclaw16_NormalTwice.f (k + 1) a0 a1) := by
  intro a0 a1 k
  obtain ⟨ih0, ih1⟩ := rubriclaw16_NormalTwice.mono_l k
  unfold rubriclaw16_NormalTwice.f
  repeat' first
      | (with_reducible exact ih0 _ _ _)
      | (with_reducible exact ih1 _ _)
      | (with_reducible exact rubriclaw16_tame.mono _ _ _)
      | (with_reducible exact LeO.refl _)
      | (with_reducible exact LeO.none _)
      | (with_reducible refine LeO.ite ?_ ?_)
      | (with_reducible refine LeO.bind ?_ (fun _ => ?_))
      | exact ih0 _ _ _
      | exact ih1 _ _
      | exact rubriclaw16_tame.mono _ _ _
      | exact LeO.none _
      | refine LeO.ite ?_ ?_
      | refine LeO.bind ?_ (fun _ => ?_)
set_option maxHeartbeats 8000000 in
set_option maxRecDepth 100000 in
theorem rubriclaw16_NormalTwice.calls (k : Nat) (A0 : Option Addr) (c0 : Nat) (l0 : List (S64)) (A1 : Option Addr) (c1 : Nat) (l1 : List (S30)) (r : Bool) (w : World) (hr0 : Kd.C k64 w A0 l0.length l0) (hc0 : l0.length ≤ c0) (hr1 : Kd.C k30 w A1 l1.length l1) (hc1 : l1.length ≤ c1) (h : rubriclaw16_NormalTwice.f k l0 l1 = some r) :
    Calls Try.prog 7 #[.slice A0 l0.length c0, .slice A1 l1.length c1] w fun e w' => e = .returned (.bool r) ∧ Below w.heap.size w w' := by
  have HR0 := Aside0.mk hr0
  have HC0 := Aside0.mk hc0
  clear hr0 hc0
  have HR1 := Aside0.mk hr1
  have HC1 := Aside0.mk hc1
  clear hr1 hc1
  have HB := Aside0.mk (Below.refl w.heap.size w)
  have H : ((rubriclaw16_tame.f k l0 l1).bind fun t301 => (if t301 = true then ((normal_Of.f l1).bind fun t303 => (rubriclaw16_NormalTwice.l0 k t303 (t303.length : Int) 0)) else ((rubriclaw16_known.f).bind fun t302 => (some t302)))) = some r := h
  clear h
  replace H := Option.bind_eq_some_iff.mp H
  obtain ⟨t301, A30, H⟩ := H
  replace H : (if t301 = true then ((normal_Of.f l1).bind fun t303 => (rubriclaw16_NormalTwice.l0 k t303 (t303.length : Int) 0)) else ((rubriclaw16_known.f).bind fun t302 => (some t302))) = some r := H
  have A3 := Aside0.mk A30
  clear A30
  by_cases c4 : t301 = true
  · subst c4
    have H1 : ((normal_Of.f l1).bind fun t303 => (rubriclaw16_NormalTwice.l0 k t303 (t303.length : Int) 0)) = some r := by rw [if_pos rfl] at H; exact H
    clear H
    have H := H1
    clear H1
    replace H := Option.bind_eq_some_iff.mp H
    obtain ⟨t303, A50, H⟩ := H
    replace H : (rubriclaw16_NormalTwice.l0 k t303 (t303.length : Int) 0) = some r := H
    have A5 := Aside0.mk A50
    clear A50
    have H' := Aside0.mk H
    clear H
    go_enter Try.func7, Try.ntmps7
    go_wp2_with (first | ((with_reducible refine gate_callee (f := 8) rfl ?_); refine goesL_ (some 10) rfl rfl Try.func8 (by kernel_rfl) rfl #[.slice A0 l0.length c0, .slice A1 l1.length c1] rfl (by (try simp only [List.map_toArray, List.map_cons, List.map_nil]); first | done | rfl | (simp only [List.length_drop, List.length_take]; rfl)) ?_; (with_reducible refine (rubriclaw16_tame.calls k _ _ l0 _ _ l1 true _ ?side1 ?side2 ?side3 ?side4 A3.out).mono ?_); (case side1 => repeat (first | exact HR0.out | (with_reducible refine Kd.C_alloc ?_ _) | (with_reducible refine Kd.C_drewN ?_ _) | (with_reducible refine Kd.C_drew ?_))); (case side2 => exact HC0.out); (case side3 => repeat (first | exact HR1.out | (with_reducible refine Kd.C_alloc ?_ _) | (with_reducible refine Kd.C_drewN ?_ _) | (with_reducible refine Kd.C_drew ?_))); (case side4 => exact HC1.out); rintro e w6 ⟨rfl, hb⟩; refine ⟨_, rfl, ?_⟩; have n0_ := Aside0.mk (below_step (by repeat (first | (with_reducible first | exact HB.out | apply below_alloc | apply pw_below_drewN | apply below_drew1) | exact HB.out | exact Below.refl _ _)) hb); clear HB; have HB := n0_; clear n0_; (try clear hb); (try clear hb2); (try clear hk); (try clear hi)) | ((with_reducible refine gate_callee (f := 12) rfl ?_); refine goesL_ (some 14) rfl rfl Try.func12 (by kernel_rfl) rfl #[.slice A1 l1.length c1] rfl (by (try simp only [List.map_toArray, List.map_cons, List.map_nil]); first | done | rfl | (simp only [List.length_drop, List.length_take]; rfl)) ?_; (with_reducible refine (normal_Of.calls _ _ l1 t303 _ ?side1 ?side2 A5.out).mono ?_); (case side1 => repeat (first | exact (Kd.C_below HR1.out HB.out) | (with_reducible refine Kd.C_alloc ?_ _) | (with_reducible refine Kd.C_drewN ?_ _) | (with_reducible refine Kd.C_drew ?_))); (case side2 => exact HC1.out); rintro e w7 ⟨v304, rfl, ho0, hb⟩; refine ⟨_, rfl, ?_⟩; have n0_ := Aside0.mk (Kd.S_lower ho0 (below_size (by repeat (first | (with_reducible first | exact HB.out | apply below_alloc | apply pw_below_drewN | apply below_drew1) | exact HB.out | exact Below.refl _ _)))); have n1_ := Aside0.mk (below_step (by repeat (first | (with_reducible first | exact HB.out | apply below_alloc | apply pw_below_drewN | apply below_drew1) | exact HB.out | exact Below.refl _ _)) hb); clear HB; have HO305 := n0_; have HB := n1_; clear n0_ n1_; (try clear hb); (try clear hb2); (try clear hk); (try clear hi); (try clear ho0); obtain ⟨Ao8, co8, eo8⟩ := Kd.S_slice HO305.out; subst eo8))
    go_loopg [17] k (fun kq v17 w' => ∃ (x17_1 : Int), v17 = .int .i64 x17_1 ∧ Aside0 (rubriclaw16_NormalTwice.l0 kq t303 (t303.length : Int) x17_1 = some r) ∧ Aside0 (kq ≤ k) ∧ Aside0 (Kd.S k30 30 w' w.heap.size (fun _ => True) (.slice Ao8 t303.length co8) t303) ∧ Aside0 (Below w.heap.size w w'))
    case atStart => exact ⟨(0), (by first | rfl | (simp; done) | (simp [*]; done)), H', ⟨Nat.le_refl _⟩, ⟨by (with_reducible repeat (first | apply Kd.S_alloc | apply Kd.S_drewN | apply Kd.S_drew)); exact HO305.out⟩, ⟨by repeat (first | (with_reducible first | exact HB.out | apply below_alloc | apply pw_below_drewN | apply below_drew1) | exact HB.out | exact Below.refl _ _)⟩⟩
    case round =>
      clear H'
      try clear c1
      try clear p2
      try clear c4
      try clear c7
      try clear c8
      obtain ⟨x17_1, rfl, HA, HK1, HO_5, HB⟩ := hrel
      cases gk with
      | zero => exact absurd HA.out (by simp [rubriclaw16_NormalTwice.l0])
      | succ k1 =>
        have H := HA.out
        clear HA
        simp only [rubriclaw16_NormalTwice.l0] at H
        by_cases c9 : x17_1 < (t303.length : Int)
        · rw [if_pos c9] at H
          have c9b0 : decide (x17_1 < (t303.length : Int)) = true := decide_eq_true c9
          clear c9
          by_cases c10 : x17_1 > 0
          · rw [if_pos c10] at H
            have c10b0 : decide (0 < x17_1) = true := decide_eq_true c10
            clear c10
            obtain ⟨ji11, hji11⟩ : ∃ j_ : Int, (wrap64 (x17_1 - 1)) = j_ := ⟨_, rfl⟩
            replace H : (if 0 ≤ (ji11) then (if (ji11) < (t303.length : Int) then (if ((rd_T30 t303 (ji11)).f0) = 3 then (if 0 ≤ x17_1 then (if x17_1 < (t303.length : Int) then (if ((rd_T30 t303 x17_1).f0) = 1 then (if ((rd_T30 t303 x17_1).f0) = 3 then (some false) else (rubriclaw16_NormalTwice.l0 k1 t303 (t303.length : Int) (wrap64 (x17_1 + 1)))) else (some false)) else (none)) else (none)) else (rubriclaw16_NormalTwice.l0 k1 t303 (t303.length : Int) (wrap64 (x17_1 + 1)))) else (none)) else (none)) = some r := by first | (rw [hji11] at H; exact H) | (simp only [hji11] at H ⊢; exact H)
            have hji11w : (IntKind.i64.wrap (x17_1 - 1)) = ji11 := (i64_w _).trans hji11
            by_cases c12 : 0 ≤ (ji11)
            · rw [if_pos c12] at H
              have c12b0 : decide (0 ≤ (ji11)) = true := decide_eq_true c12
              clear c12
              by_cases c13 : (ji11) < (t303.length : Int)
              · rw [if_pos c13] at H
                have c13b0 : decide ((ji11) < (t303.length : Int)) = true := decide_eq_true c13
                clear c13
                by_cases c14 : ((rd_T30 t303 (ji11)).f0) = 3
                · rw [if_pos c14] at H
                  have c14b0 : (((rd_T30 t303 (ji11)).f0) == 3) = true := beq_iff_eq.mpr c14
                  have c14b1 : (((rd_T30 t303 (ji11)).f0) != 3) = false := bne_eq_false_iff_eq.mpr c14
                  clear c14
                  by_cases c15 : 0 ≤ x17_1
                  · rw [if_pos c15] at H
                    have c15b0 : decide (0 ≤ x17_1) = true := decide_eq_true c15
                    clear c15
                    by_cases c16 : x17_1 < (t303.length : Int)
                    · rw [if_pos c16] at H
                      have c16b0 : decide (x17_1 < (t303.length : Int)) = true := decide_eq_true c16
                      clear c16
                      by_cases c17 : ((rd_T30 t303 x17_1).f0) = 1
                      · rw [if_pos c17] at H
                        have c17b0 : (((rd_T30 t303 x17_1).f0) == 1) = true := beq_iff_eq.mpr c17
                        have c17b1 : (((rd_T30 t303 x17_1).f0) != 1) = false := bne_eq_false_iff_eq.mpr c17
                        clear c17
                        by_cases c18 : ((rd_T30 t303 x17_1).f0) = 3
                        · rw [if_pos c18] at H
                          have c18b0 : (((rd_T30 t303 x17_1).f0) == 3) = true := beq_iff_eq.mpr c18
                          have c18b1 : (((rd_T30 t303 x17_1).f0) != 3) = false := bne_eq_false_iff_eq.mpr c18
                          clear c18
                          obtain rfl := Option.some.inj H
                          have p306 : 0 ≤ ((ji11) : Int) := of_decide_eq_true (by first | (with_reducible assumption) | assumption)
                          have q306 : (ji11) < (t303.length : Int) := of_decide_eq_true (by first | (with_reducible assumption) | assumption)
                          obtain ⟨ad306, A306_2, c306_2, A306_3, c306_3, A306_4, c306_4, e306, hx306_0, hx306_1, hx306_2, hx306_3, hx306_4, hl306_2, hi306_2, hl306_3, hi306_3, hl306_4, hi306_4⟩ := at_T30 (Kd.S_reads' HO_5.out).2.2 (ji11) p306 q306
                          cases e306
                          obtain ⟨ce306, hce306, hMe306, hcc306⟩ := Kd.S_get HO_5.out z30 (ji11) p306 (by first | exact q306 | exact of_decide_eq_true (by first | (with_reducible assumption) | assumption) | (have e_ := (Kd.S_reads' HO_5.out).1; omega))
                          obtain ⟨ve306_2, ve306_3, ve306_4, rfl, ge306_2, ge306_3, ge306_4⟩ := k30_openM hMe306
                          have hv306_2 := hcc306 2 _ rfl
                          rw [add_field _ _ 2 (by omega)] at hv306_2
                          replace hv306_2 := Option.some.inj (hv306_2.symm.trans hx306_2)
                          rw [hv306_2] at ge306_2
                          have HL306_2 := Aside0.mk (show Kd.R (Kd.int .i32) 21 _ _ _ _ ((rd_T30 t303 (ji11)).f2) from ge306_2)
                          clear hv306_2 ge306_2
                          have hv306_3 := hcc306 3 _ rfl
                          rw [add_field _ _ 3 (by omega)] at hv306_3
                          replace hv306_3 := Option.some.inj (hv306_3.symm.trans hx306_3)
                          rw [hv306_3] at ge306_3
                          have HL306_3 := Aside0.mk (show Kd.R k40 40 _ _ _ _ ((rd_T30 t303 (ji11)).f3) from ge306_3)
                          clear hv306_3 ge306_3
                          have hv306_4 := hcc306 4 _ rfl
                          rw [add_field _ _ 4 (by omega)] at hv306_4
                          replace hv306_4 := Option.some.inj (hv306_4.symm.trans hx306_4)
                          rw [hv306_4] at ge306_4
                          have HL306_4 := Aside0.mk (show Kd.R k42 42 _ _ _ _ ((rd_T30 t303 (ji11)).f4) from ge306_4)
                          clear hv306_4 ge306_4
                          clear hcc306 hce306
                          have HR306_2 := Aside0.mk hi306_2
                          have HC306_2 := Aside0.mk hl306_2
                          clear hi306_2 hl306_2
                          have HR306_3 := Aside0.mk hi306_3
                          have HC306_3 := Aside0.mk hl306_3
                          clear hi306_3 hl306_3
                          have HR306_4 := Aside0.mk hi306_4
                          have HC306_4 := Aside0.mk hl306_4
                          clear hi306_4 hl306_4
                          replace p306 := eq_true p306
                          replace q306 := eq_true q306
                          have p307 : 0 ≤ (x17_1 : Int) := of_decide_eq_true (by first | (with_reducible assumption) | assumption)
                          have q307 : x17_1 < (t303.length : Int) := of_decide_eq_true (by first | (with_reducible assumption) | assumption)
                          obtain ⟨ad307, A307_2, c307_2, A307_3, c307_3, A307_4, c307_4, e307, hx307_0, hx307_1, hx307_2, hx307_3, hx307_4, hl307_2, hi307_2, hl307_3, hi307_3, hl307_4, hi307_4⟩ := at_T30 (Kd.S_reads' HO_5.out).2.2 x17_1 p307 q307
                          obtain rfl : ad306 = ad307 := (by injection e307)
                          obtain ⟨ce307, hce307, hMe307, hcc307⟩ := Kd.S_get HO_5.out z30 x17_1 p307 (by first | exact q307 | exact of_decide_eq_true (by first | (with_reducible assumption) | assumption) | (have e_ := (Kd.S_reads' HO_5.out).1; omega))
                          obtain ⟨ve307_2, ve307_3, ve307_4, rfl, ge307_2, ge307_3, ge307_4⟩ := k30_openM hMe307
                          have hv307_2 := hcc307 2 _ rfl
                          rw [add_field _ _ 2 (by omega)] at hv307_2
                          replace hv307_2 := Option.some.inj (hv307_2.symm.trans hx307_2)
                          rw [hv307_2] at ge307_2
                          have HL307_2 := Aside0.mk (show Kd.R (Kd.int .i32) 21 _ _ _ _ ((rd_T30 t303 x17_1).f2) from ge307_2)
                          clear hv307_2 ge307_2
                          have hv307_3 := hcc307 3 _ rfl
                          rw [add_field _ _ 3 (by omega)] at hv307_3
                          replace hv307_3 := Option.some.inj (hv307_3.symm.trans hx307_3)
                          rw [hv307_3] at ge307_3
                          have HL307_3 := Aside0.mk (show Kd.R k40 40 _ _ _ _ ((rd_T30 t303 x17_1).f3) from ge307_3)
                          clear hv307_3 ge307_3
                          have hv307_4 := hcc307 4 _ rfl
                          rw [add_field _ _ 4 (by omega)] at hv307_4
                          replace hv307_4 := Option.some.inj (hv307_4.symm.trans hx307_4)
                          rw [hv307_4] at ge307_4
                          have HL307_4 := Aside0.mk (show Kd.R k42 42 _ _ _ _ ((rd_T30 t303 x17_1).f4) from ge307_4)
                          clear hv307_4 ge307_4
                          clear hcc307 hce307
                          have HR307_2 := Aside0.mk hi307_2
                          have HC307_2 := Aside0.mk hl307_2
                          clear hi307_2 hl307_2
                          have HR307_3 := Aside0.mk hi307_3
                          have HC307_3 := Aside0.mk hl307_3
                          clear hi307_3 hl307_3
                          have HR307_4 := Aside0.mk hi307_4
                          have HC307_4 := Aside0.mk hl307_4
                          clear hi307_4 hl307_4
                          replace p307 := eq_true p307
                          replace q307 := eq_true q307
                          have p308 : 0 ≤ ((ji11) : Int) := of_decide_eq_true (by first | (with_reducible assumption) | assumption)
                          have q308 : (ji11) < (t303.length : Int) := of_decide_eq_true (by first | (with_reducible assumption) | assumption)
                          obtain ⟨ad308, A308_2, c308_2, A308_3, c308_3, A308_4, c308_4, e308, hx308_0, hx308_1, hx308_2, hx308_3, hx308_4, hl308_2, hi308_2, hl308_3, hi308_3, hl308_4, hi308_4⟩ := at_T30 (Kd.S_reads' HO_5.out).2.2 (ji11) p308 q308
                          obtain rfl : ad306 = ad308 := (by injection e308)
                          obtain ⟨ce308, hce308, hMe308, hcc308⟩ := Kd.S_get HO_5.out z30 (ji11) p308 (by first | exact q308 | exact of_decide_eq_true (by first | (with_reducible assumption) | assumption) | (have e_ := (Kd.S_reads' HO_5.out).1; omega))
                          obtain ⟨ve308_2, ve308_3, ve308_4, rfl, ge308_2, ge308_3, ge308_4⟩ := k30_openM hMe308
                          have hv308_2 := hcc308 2 _ rfl
                          rw [add_field _ _ 2 (by omega)] at hv308_2
                          replace hv308_2 := Option.some.inj (hv308_2.symm.trans hx308_2)
                          rw [hv308_2] at ge308_2
                          have HL308_2 := Aside0.mk (show Kd.R (Kd.int .i32) 21 _ _ _ _ ((rd_T30 t303 (ji11)).f2) from ge308_2)
                          clear hv308_2 ge308_2
                          have hv308_3 := hcc308 3 _ rfl
                          rw [add_field _ _ 3 (by omega)] at hv308_3
                          replace hv308_3 := Option.some.inj (hv308_3.symm.trans hx308_3)
                          rw [hv308_3] at ge308_3
                          have HL308_3 := Aside0.mk (show Kd.R k40 40 _ _ _ _ ((rd_T30 t303 (ji11)).f3) from ge308_3)
                          clear hv308_3 ge308_3
                          have hv308_4 := hcc308 4 _ rfl
                          rw [add_field _ _ 4 (by omega)] at hv308_4
                          replace hv308_4 := Option.some.inj (hv308_4.symm.trans hx308_4)
                          rw [hv308_4] at ge308_4
                          have HL308_4 := Aside0.mk (show Kd.R k42 42 _ _ _ _ ((rd_T30 t303 (ji11)).f4) from ge308_4)
                          clear hv308_4 ge308_4
                          clear hcc308 hce308
                          have HR308_2 := Aside0.mk hi308_2
                          have HC308_2 := Aside0.mk hl308_2
                          clear hi308_2 hl308_2
                          have HR308_3 := Aside0.mk hi308_3
                          have HC308_3 := Aside0.mk hl308_3
                          clear hi308_3 hl308_3
                          have HR308_4 := Aside0.mk hi308_4
                          have HC308_4 := Aside0.mk hl308_4
                          clear hi308_4 hl308_4
                          replace p308 := eq_true p308
                          replace q308 := eq_true q308
                          have ea_ := Option.some.inj (hx306_2.symm.trans hx308_2)
                          injection ea_ with ea_ en_ ec_
                          subst ea_
                          subst ec_
                          clear en_
                          have ea_ := Option.some.inj (hx306_3.symm.trans hx308_3)
                          injection ea_ with ea_ en_ ec_
                          subst ea_
                          subst ec_
                          clear en_
                          have ea_ := Option.some.inj (hx306_4.symm.trans hx308_4)
                          injection ea_ with ea_ en_ ec_
                          subst ea_
                          subst ec_
                          clear en_
                          have p309 : 0 ≤ (x17_1 : Int) := of_decide_eq_true (by first | (with_reducible assumption) | assumption)
                          have q309 : x17_1 < (t303.length : Int) := of_decide_eq_true (by first | (with_reducible assumption) | assumption)
                          obtain ⟨ad309, A309_2, c309_2, A309_3, c309_3, A309_4, c309_4, e309, hx309_0, hx309_1, hx309_2, hx309_3, hx309_4, hl309_2, hi309_2, hl309_3, hi309_3, hl309_4, hi309_4⟩ := at_T30 (Kd.S_reads' HO_5.out).2.2 x17_1 p309 q309
                          obtain rfl : ad306 = ad309 := (by injection e309)
                          obtain ⟨ce309, hce309, hMe309, hcc309⟩ := Kd.S_get HO_5.out z30 x17_1 p309 (by first | exact q309 | exact of_decide_eq_true (by first | (with_reducible assumption) | assumption) | (have e_ := (Kd.S_reads' HO_5.out).1; omega))
                          obtain ⟨ve309_2, ve309_3, ve309_4, rfl, ge309_2, ge309_3, ge309_4⟩ := k30_openM hMe309
                          have hv309_2 := hcc309 2 _ rfl
                          rw [add_field _ _ 2 (by omega)] at hv309_2
                          replace hv309_2 := Option.some.inj (hv309_2.symm.trans hx309_2)
                          rw [hv309_2] at ge309_2
                          have HL309_2 := Aside0.mk (show Kd.R (Kd.int .i32) 21 _ _ _ _ ((rd_T30 t303 x17_1).f2) from ge309_2)
                          clear hv309_2 ge309_2
                          have hv309_3 := hcc309 3 _ rfl
                          rw [add_field _ _ 3 (by omega)] at hv309_3
                          replace hv309_3 := Option.some.inj (hv309_3.symm.trans hx309_3)
                          rw [hv309_3] at ge309_3
                          have HL309_3 := Aside0.mk (show Kd.R k40 40 _ _ _ _ ((rd_T30 t303 x17_1).f3) from ge309_3)
                          clear hv309_3 ge309_3
                          have hv309_4 := hcc309 4 _ rfl
                          rw [add_field _ _ 4 (by omega)] at hv309_4
                          replace hv309_4 := Option.some.inj (hv309_4.symm.trans hx309_4)
                          rw [hv309_4] at ge309_4
                          have HL309_4 := Aside0.mk (show Kd.R k42 42 _ _ _ _ ((rd_T30 t303 x17_1).f4) from ge309_4)
                          clear hv309_4 ge309_4
                          clear hcc309 hce309
                          have HR309_2 := Aside0.mk hi309_2
                          have HC309_2 := Aside0.mk hl309_2
                          clear hi309_2 hl309_2
                          have HR309_3 := Aside0.mk hi309_3
                          have HC309_3 := Aside0.mk hl309_3
                          clear hi309_3 hl309_3
                          have HR309_4 := Aside0.mk hi309_4
                          have HC309_4 := Aside0.mk hl309_4
                          clear hi309_4 hl309_4
                          replace p309 := eq_true p309
                          replace q309 := eq_true q309
                          have ea_ := Option.some.inj (hx307_2.symm.trans hx309_2)
                          injection ea_ with ea_ en_ ec_
                          subst ea_
                          subst ec_
                          clear en_
                          have ea_ := Option.some.inj (hx307_3.symm.trans hx309_3)
                          injection ea_ with ea_ en_ ec_
                          subst ea_
                          subst ec_
                          clear en_
                          have ea_ := Option.some.inj (hx307_4.symm.trans hx309_4)
                          injection ea_ with ea_ en_ ec_
                          subst ea_
                          subst ec_
                          clear en_
                          go_wp2
                          go_ret
                          exact ⟨by first | rfl | (simp [errW_none, errW_some] <;> rfl) | (simp only [← hji11]; first | rfl | (simp [errW_none, errW_some] <;> rfl)) | (simp [*, errW_none, errW_some] <;> rfl), by repeat (first | (with_reducible first | exact HB.out | apply below_alloc | apply pw_below_drewN | apply below_drew1) | exact HB.out | exact Below.refl _ _)⟩
                        · rw [if_neg c18] at H
                          have c18b0 : (((rd_T30 t303 x17_1).f0) == 3) = false := beq_eq_false_iff_ne.mpr c18
                          have c18b1 : (((rd_T30 t303 x17_1).f0) != 3) = true := bne_iff_ne.mpr c18
                          have H' := Aside0.mk H
                          clear H
                          have p306 : 0 ≤ ((ji11) : Int) := of_decide_eq_true (by first | (with_reducible assumption) | assumption)
                          have q306 : (ji11) < (t303.length : Int) := of_decide_eq_true (by first | (with_reducible assumption) | assumption)
                          obtain ⟨ad306, A306_2, c306_2, A306_3, c306_3, A306_4, c306_4, e306, hx306_0, hx306_1, hx306_2, hx306_3, hx306_4, hl306_2, hi306_2, hl306_3, hi306_3, hl306_4, hi306_4⟩ := at_T30 (Kd.S_reads' HO_5.out).2.2 (ji11) p306 q306
                          cases e306
                          obtain ⟨ce306, hce306, hMe306, hcc306⟩ := Kd.S_get HO_5.out z30 (ji11) p306 (by first | exact q306 | exact of_decide_eq_true (by first | (with_reducible assumption) | assumption) | (have e_ := (Kd.S_reads' HO_5.out).1; omega))
                          obtain ⟨ve306_2, ve306_3, ve306_4, rfl, ge306_2, ge306_3, ge306_4⟩ := k30_openM hMe306
                          have hv306_2 := hcc306 2 _ rfl
                          rw [add_field _ _ 2 (by omega)] at hv306_2
                          replace hv306_2 := Option.some.inj (hv306_2.symm.trans hx306_2)
                          rw [hv306_2] at ge306_2
                          have HL306_2 := Aside0.mk (show Kd.R (Kd.int .i32) 21 _ _ _ _ ((rd_T30 t303 (ji11)).f2) from ge306_2)
                          clear hv306_2 ge306_2
                          have hv306_3 := hcc306 3 _ rfl
                          rw [add_field _ _ 3 (by omega)] at hv306_3
                          replace hv306_3 := Option.some.inj (hv306_3.symm.trans hx306_3)
                          rw [hv306_3] at ge306_3
                          have HL306_3 := Aside0.mk (show Kd.R k40 40 _ _ _ _ ((rd_T30 t303 (ji11)).f3) from ge306_3)
                          clear hv306_3 ge306_3
                          have hv306_4 := hcc306 4 _ rfl
                          rw [add_field _ _ 4 (by omega)] at hv306_4
                          replace hv306_4 := Option.some.inj (hv306_4.symm.trans hx306_4)
                          rw [hv306_4] at ge306_4
                          have HL306_4 := Aside0.mk (show Kd.R k42 42 _ _ _ _ ((rd_T30 t303 (ji11)).f4) from ge306_4)
                          clear hv306_4 ge306_4
                          clear hcc306 hce306
                          have HR306_2 := Aside0.mk hi306_2
                          have HC306_2 := Aside0.mk hl306_2
                          clear hi306_2 hl306_2
                          have HR306_3 := Aside0.mk hi306_3
                          have HC306_3 := Aside0.mk hl306_3
                          clear hi306_3 hl306_3
                          have HR306_4 := Aside0.mk hi306_4
                          have HC306_4 := Aside0.mk hl306_4
                          clear hi306_4 hl306_4
                          replace p306 := eq_true p306
                          replace q306 := eq_true q306
                          have p307 : 0 ≤ (x17_1 : Int) := of_decide_eq_true (by first | (with_reducible assumption) | assumption)
                          have q307 : x17_1 < (t303.length : Int) := of_decide_eq_true (by first | (with_reducible assumption) | assumption)
                          obtain ⟨ad307, A307_2, c307_2, A307_3, c307_3, A307_4, c307_4, e307, hx307_0, hx307_1, hx307_2, hx307_3, hx307_4, hl307_2, hi307_2, hl307_3, hi307_3, hl307_4, hi307_4⟩ := at_T30 (Kd.S_reads' HO_5.out).2.2 x17_1 p307 q307
                          obtain rfl : ad306 = ad307 := (by injection e307)
                          obtain ⟨ce307, hce307, hMe307, hcc307⟩ := Kd.S_get HO_5.out z30 x17_1 p307 (by first | exact q307 | exact of_decide_eq_true (by first | (with_reducible assumption) | assumption) | (have e_ := (Kd.S_reads' HO_5.out).1; omega))
                          obtain ⟨ve307_2, ve307_3, ve307_4, rfl, ge307_2, ge307_3, ge307_4⟩ := k30_openM hMe307
                          have hv307_2 := hcc307 2 _ rfl
                          rw [add_field _ _ 2 (by omega)] at hv307_2
                          replace hv307_2 := Option.some.inj (hv307_2.symm.trans hx307_2)
                          rw [hv307_2] at ge307_2
                          have HL307_2 := Aside0.mk (show Kd.R (Kd.int .i32) 21 _ _ _ _ ((rd_T30 t303 x17_1).f2) from ge307_2)
                          clear hv307_2 ge307_2
                          have hv307_3 := hcc307 3 _ rfl
                          rw [add_field _ _ 3 (by omega)] at hv307_3
                          replace hv307_3 := Option.some.inj (hv307_3.symm.trans hx307_3)
                          rw [hv307_3] at ge307_3
                          have HL307_3 := Aside0.mk (show Kd.R k40 40 _ _ _ _ ((rd_T30 t303 x17_1).f3) from ge307_3)
                          clear hv307_3 ge307_3
                          have hv307_4 := hcc307 4 _ rfl
                          rw [add_field _ _ 4 (by omega)] at hv307_4
                          replace hv307_4 := Option.some.inj (hv307_4.symm.trans hx307_4)
                          rw [hv307_4] at ge307_4
                          have HL307_4 := Aside0.mk (show Kd.R k42 42 _ _ _ _ ((rd_T30 t303 x17_1).f4) from ge307_4)
                          clear hv307_4 ge307_4
                          clear hcc307 hce307
                          have HR307_2 := Aside0.mk hi307_2
                          have HC307_2 := Aside0.mk hl307_2
                          clear hi307_2 hl307_2
                          have HR307_3 := Aside0.mk hi307_3
                          have HC307_3 := Aside0.mk hl307_3
                          clear hi307_3 hl307_3
                          have HR307_4 := Aside0.mk hi307_4
                          have HC307_4 := Aside0.mk hl307_4
                          clear hi307_4 hl307_4
                          replace p307 := eq_true p307
                          replace q307 := eq_true q307
                          have p308 : 0 ≤ ((ji11) : Int) := of_decide_eq_true (by first | (with_reducible assumption) | assumption)
                          have q308 : (ji11) < (t303.length : Int) := of_decide_eq_true (by first | (with_reducible assumption) | assumption)
                          obtain ⟨ad308, A308_2, c308_2, A308_3, c308_3, A308_4, c308_4, e308, hx308_0, hx308_1, hx308_2, hx308_3, hx308_4, hl308_2, hi308_2, hl308_3, hi308_3, hl308_4, hi308_4⟩ := at_T30 (Kd.S_reads' HO_5.out).2.2 (ji11) p308 q308
                          obtain rfl : ad306 = ad308 := (by injection e308)
                          obtain ⟨ce308, hce308, hMe308, hcc308⟩ := Kd.S_get HO_5.out z30 (ji11) p308 (by first | exact q308 | exact of_decide_eq_true (by first | (with_reducible assumption) | assumption) | (have e_ := (Kd.S_reads' HO_5.out).1; omega))
                          obtain ⟨ve308_2, ve308_3, ve308_4, rfl, ge308_2, ge308_3, ge308_4⟩ := k30_openM hMe308
                          have hv308_2 := hcc308 2 _ rfl
                          rw [add_field _ _ 2 (by omega)] at hv308_2
                          replace hv308_2 := Option.some.inj (hv308_2.symm.trans hx308_2)
                          rw [hv308_2] at ge308_2
                          have HL308_2 := Aside0.mk (show Kd.R (Kd.int .i32) 21 _ _ _ _ ((rd_T30 t303 (ji11)).f2) from ge308_2)
                          clear hv308_2 ge308_2
                          have hv308_3 := hcc308 3 _ rfl
                          rw [add_field _ _ 3 (by omega)] at hv308_3
                          replace hv308_3 := Option.some.inj (hv308_3.symm.trans hx308_3)
                          rw [hv308_3] at ge308_3
                          have HL308_3 := Aside0.mk (show Kd.R k40 40 _ _ _ _ ((rd_T30 t303 (ji11)).f3) from ge308_3)
                          clear hv308_3 ge308_3
                          have hv308_4 := hcc308 4 _ rfl
                          rw [add_field _ _ 4 (by omega)] at hv308_4
                          replace hv308_4 := Option.some.inj (hv308_4.symm.trans hx308_4)
                          rw [hv308_4] at ge308_4
                          have HL308_4 := Aside0.mk (show Kd.R k42 42 _ _ _ _ ((rd_T30 t303 (ji11)).f4) from ge308_4)
                          clear hv308_4 ge308_4
                          clear hcc308 hce308
                          have HR308_2 := Aside0.mk hi308_2
                          have HC308_2 := Aside0.mk hl308_2
                          clear hi308_2 hl308_2
                          have HR308_3 := Aside0.mk hi308_3
                          have HC308_3 := Aside0.mk hl308_3
                          clear hi308_3 hl308_3
                          have HR308_4 := Aside0.mk hi308_4
                          have HC308_4 := Aside0.mk hl308_4
                          clear hi308_4 hl308_4
                          replace p308 := eq_true p308
                          replace q308 := eq_true q308
                          have ea_ := Option.some.inj (hx306_2.symm.trans hx308_2)
                          injection ea_ with ea_ en_ ec_
                          subst ea_
                          subst ec_
                          clear en_
                          have ea_ := Option.some.inj (hx306_3.symm.trans hx308_3)
                          injection ea_ with ea_ en_ ec_
                          subst ea_
                          subst ec_
                          clear en_
                          have ea_ := Option.some.inj (hx306_4.symm.trans hx308_4)
                          injection ea_ with ea_ en_ ec_
                          subst ea_
                          subst ec_
                          clear en_
                          have p309 : 0 ≤ (x17_1 : Int) := of_decide_eq_true (by first | (with_reducible assumption) | assumption)
                          have q309 : x17_1 < (t303.length : Int) := of_decide_eq_true (by first | (with_reducible assumption) | assumption)
                          obtain ⟨ad309, A309_2, c309_2, A309_3, c309_3, A309_4, c309_4, e309, hx309_0, hx309_1, hx309_2, hx309_3, hx309_4, hl309_2, hi309_2, hl309_3, hi309_3, hl309_4, hi309_4⟩ := at_T30 (Kd.S_reads' HO_5.out).2.2 x17_1 p309 q309
                          obtain rfl : ad306 = ad309 := (by injection e309)
                          obtain ⟨ce309, hce309, hMe309, hcc309⟩ := Kd.S_get HO_5.out z30 x17_1 p309 (by first | exact q309 | exact of_decide_eq_true (by first | (with_reducible assumption) | assumption) | (have e_ := (Kd.S_reads' HO_5.out).1; omega))
                          obtain ⟨ve309_2, ve309_3, ve309_4, rfl, ge309_2, ge309_3, ge309_4⟩ := k30_openM hMe309
                          have hv309_2 := hcc309 2 _ rfl
                          rw [add_field _ _ 2 (by omega)] at hv309_2
                          replace hv309_2 := Option.some.inj (hv309_2.symm.trans hx309_2)
                          rw [hv309_2] at ge309_2
                          have HL309_2 := Aside0.mk (show Kd.R (Kd.int .i32) 21 _ _ _ _ ((rd_T30 t303 x17_1).f2) from ge309_2)
                          clear hv309_2 ge309_2
                          have hv309_3 := hcc309 3 _ rfl
                          rw [add_field _ _ 3 (by omega)] at hv309_3
                          replace hv309_3 := Option.some.inj (hv309_3.symm.trans hx309_3)
                          rw [hv309_3] at ge309_3
                          have HL309_3 := Aside0.mk (show Kd.R k40 40 _ _ _ _ ((rd_T30 t303 x17_1).f3) from ge309_3)
                          clear hv309_3 ge309_3
                          have hv309_4 := hcc309 4 _ rfl
                          rw [add_field _ _ 4 (by omega)] at hv309_4
                          replace hv309_4 := Option.some.inj (hv309_4.symm.trans hx309_4)
                          rw [hv309_4] at ge309_4
                          have HL309_4 := Aside0.mk (show Kd.R k42 42 _ _ _ _ ((rd_T30 t303 x17_1).f4) from ge309_4)
                          clear hv309_4 ge309_4
                          clear hcc309 hce309
                          have HR309_2 := Aside0.mk hi309_2
                          have HC309_2 := Aside0.mk hl309_2
                          clear hi309_2 hl309_2
                          have HR309_3 := Aside0.mk hi309_3
                          have HC309_3 := Aside0.mk hl309_3
                          clear hi309_3 hl309_3
                          have HR309_4 := Aside0.mk hi309_4
                          have HC309_4 := Aside0.mk hl309_4
                          clear hi309_4 hl309_4
                          replace p309 := eq_true p309
                          replace q309 := eq_true q309
                          have ea_ := Option.some.inj (hx307_2.symm.trans hx309_2)
                          injection ea_ with ea_ en_ ec_
                          subst ea_
                          subst ec_
                          clear en_
                          have ea_ := Option.some.inj (hx307_3.symm.trans hx309_3)
                          injection ea_ with ea_ en_ ec_
                          subst ea_
                          subst ec_
                          clear en_
                          have ea_ := Option.some.inj (hx307_4.symm.trans hx309_4)
                          injection ea_ with ea_ en_ ec_
                          subst ea_
                          subst ec_
                          clear en_
                          go_wp2
                          go_roundg k1
                          case measure => have := HK1.out; omega
                          case rel => exact ⟨(wrap64 (x17_1 + 1)), (by first | rfl | (simp; done) | (simp [*]; done)), H', ⟨by have := HK1.out; omega⟩, ⟨by (with_reducible repeat (first | apply Kd.S_alloc | apply Kd.S_drewN | apply Kd.S_drew)); exact HO_5.out⟩, ⟨by repeat (first | (with_reducible first | exact HB.out | apply below_alloc | apply pw_below_drewN | apply below_drew1) | exact HB.out | exact Below.refl _ _)⟩⟩
                      · rw [if_neg c17] at H
                        have c17b0 : (((rd_T30 t303 x17_1).f0) == 1) = false := beq_eq_false_iff_ne.mpr c17
                        have c17b1 : (((rd_T30 t303 x17_1).f0) != 1) = true := bne_iff_ne.mpr c17
                        obtain rfl := Option.some.inj H
                        have p306 : 0 ≤ ((ji11) : Int) := of_decide_eq_true (by first | (with_reducible assumption) | assumption)
                        have q306 : (ji11) < (t303.length : Int) := of_decide_eq_true (by first | (with_reducible assumption) | assumption)
                        obtain ⟨ad306, A306_2, c306_2, A306_3, c306_3, A306_4, c306_4, e306, hx306_0, hx306_1, hx306_2, hx306_3, hx306_4, hl306_2, hi306_2, hl306_3, hi306_3, hl306_4, hi306_4⟩ := at_T30 (Kd.S_reads' HO_5.out).2.2 (ji11) p306 q306
                        cases e306
                        obtain ⟨ce306, hce306, hMe306, hcc306⟩ := Kd.S_get HO_5.out z30 (ji11) p306 (by first | exact q306 | exact of_decide_eq_true (by first | (with_reducible assumption) | assumption) | (have e_ := (Kd.S_reads' HO_5.out).1; omega))
                        obtain ⟨ve306_2, ve306_3, ve306_4, rfl, ge306_2, ge306_3, ge306_4⟩ := k30_openM hMe306
                        have hv306_2 := hcc306 2 _ rfl
                        rw [add_field _ _ 2 (by omega)] at hv306_2
                        replace hv306_2 := Option.some.inj (hv306_2.symm.trans hx306_2)
                        rw [hv306_2] at ge306_2
                        have HL306_2 := Aside0.mk (show Kd.R (Kd.int .i32) 21 _ _ _ _ ((rd_T30 t303 (ji11)).f2) from ge306_2)
                        clear hv306_2 ge306_2
                        have hv306_3 := hcc306 3 _ rfl
                        rw [add_field _ _ 3 (by omega)] at hv306_3
                        replace hv306_3 := Option.some.inj (hv306_3.symm.trans hx306_3)
                        rw [hv306_3] at ge306_3
                        have HL306_3 := Aside0.mk (show Kd.R k40 40 _ _ _ _ ((rd_T30 t303 (ji11)).f3) from ge306_3)
                        clear hv306_3 ge306_3
                        have hv306_4 := hcc306 4 _ rfl
                        rw [add_field _ _ 4 (by omega)] at hv306_4
                        replace hv306_4 := Option.some.inj (hv306_4.symm.trans hx306_4)
                        rw [hv306_4] at ge306_4
                        have HL306_4 := Aside0.mk (show Kd.R k42 42 _ _ _ _ ((rd_T30 t303 (ji11)).f4) from ge306_4)
                        clear hv306_4 ge306_4
                        clear hcc306 hce306
                        have HR306_2 := Aside0.mk hi306_2
                        have HC306_2 := Aside0.mk hl306_2
                        clear hi306_2 hl306_2
                        have HR306_3 := Aside0.mk hi306_3
                        have HC306_3 := Aside0.mk hl306_3
                        clear hi306_3 hl306_3
                        have HR306_4 := Aside0.mk hi306_4
                        have HC306_4 := Aside0.mk hl306_4
                        clear hi306_4 hl306_4
                        replace p306 := eq_true p306
                        replace q306 := eq_true q306
                        have p307 : 0 ≤ (x17_1 : Int) := of_decide_eq_true (by first | (with_reducible assumption) | assumption)
                        have q307 : x17_1 < (t303.length : Int) := of_decide_eq_true (by first | (with_reducible assumption) | assumption)
                        obtain ⟨ad307, A307_2, c307_2, A307_3, c307_3, A307_4, c307_4, e307, hx307_0, hx307_1, hx307_2, hx307_3, hx307_4, hl307_2, hi307_2, hl307_3, hi307_3, hl307_4, hi307_4⟩ := at_T30 (Kd.S_reads' HO_5.out).2.2 x17_1 p307 q307
                        obtain rfl : ad306 = ad307 := (by injection e307)
                        obtain ⟨ce307, hce307, hMe307, hcc307⟩ := Kd.S_get HO_5.out z30 x17_1 p307 (by first | exact q307 | exact of_decide_eq_true (by first | (with_reducible assumption) | assumption) | (have e_ := (Kd.S_reads' HO_5.out).1; omega))
                        obtain ⟨ve307_2, ve307_3, ve307_4, rfl, ge307_2, ge307_3, ge307_4⟩ := k30_openM hMe307
                        have hv307_2 := hcc307 2 _ rfl
                        rw [add_field _ _ 2 (by omega)] at hv307_2
                        replace hv307_2 := Option.some.inj (hv307_2.symm.trans hx307_2)
                        rw [hv307_2] at ge307_2
                        have HL307_2 := Aside0.mk (show Kd.R (Kd.int .i32) 21 _ _ _ _ ((rd_T30 t303 x17_1).f2) from ge307_2)
                        clear hv307_2 ge307_2
                        have hv307_3 := hcc307 3 _ rfl
                        rw [add_field _ _ 3 (by omega)] at hv307_3
                        replace hv307_3 := Option.some.inj (hv307_3.symm.trans hx307_3)
                        rw [hv307_3] at ge307_3
                        have HL307_3 := Aside0.mk (show Kd.R k40 40 _ _ _ _ ((rd_T30 t303 x17_1).f3) from ge307_3)
                        clear hv307_3 ge307_3
                        have hv307_4 := hcc307 4 _ rfl
                        rw [add_field _ _ 4 (by omega)] at hv307_4
                        replace hv307_4 := Option.some.inj (hv307_4.symm.trans hx307_4)
                        rw [hv307_4] at ge307_4
                        have HL307_4 := Aside0.mk (show Kd.R k42 42 _ _ _ _ ((rd_T30 t303 x17_1).f4) from ge307_4)
                        clear hv307_4 ge307_4
                        clear hcc307 hce307
                        have HR307_2 := Aside0.mk hi307_2
                        have HC307_2 := Aside0.mk hl307_2
                        clear hi307_2 hl307_2
                        have HR307_3 := Aside0.mk hi307_3
                        have HC307_3 := Aside0.mk hl307_3
                        clear hi307_3 hl307_3
                        have HR307_4 := Aside0.mk hi307_4
                        have HC307_4 := Aside0.mk hl307_4
                        clear hi307_4 hl307_4
                        replace p307 := eq_true p307
                        replace q307 := eq_true q307
                        go_wp2
                        go_ret
                        exact ⟨by first | rfl | (simp [errW_none, errW_some] <;> rfl) | (simp only [← hji11]; first | rfl | (simp [errW_none, errW_some] <;> rfl)) | (simp [*, errW_none, errW_some] <;> rfl), by repeat (first | (with_reducible first | exact HB.out | apply below_alloc | apply pw_below_drewN | apply below_drew1) | exact HB.out | exact Below.refl _ _)⟩
                    · rw [if_neg c16] at H
                      exact absurd H (by simp)
                  · rw [if_neg c15] at H
                    exact absurd H (by simp)
                · rw [if_neg c14] at H
                  have c14b0 : (((rd_T30 t303 (ji11)).f0) == 3) = false := beq_eq_false_iff_ne.mpr c14
                  have c14b1 : (((rd_T30 t303 (ji11)).f0) != 3) = true := bne_iff_ne.mpr c14
                  have H' := Aside0.mk H
                  clear H
                  have p306 : 0 ≤ ((ji11) : Int) := of_decide_eq_true (by first | (with_reducible assumption) | assumption)
                  have q306 : (ji11) < (t303.length : Int) := of_decide_eq_true (by first | (with_reducible assumption) | assumption)
                  obtain ⟨ad306, A306_2, c306_2, A306_3, c306_3, A306_4, c306_4, e306, hx306_0, hx306_1, hx306_2, hx306_3, hx306_4, hl306_2, hi306_2, hl306_3, hi306_3, hl306_4, hi306_4⟩ := at_T30 (Kd.S_reads' HO_5.out).2.2 (ji11) p306 q306
                  cases e306
                  obtain ⟨ce306, hce306, hMe306, hcc306⟩ := Kd.S_get HO_5.out z30 (ji11) p306 (by first | exact q306 | exact of_decide_eq_true (by first | (with_reducible assumption) | assumption) | (have e_ := (Kd.S_reads' HO_5.out).1; omega))
                  obtain ⟨ve306_2, ve306_3, ve306_4, rfl, ge306_2, ge306_3, ge306_4⟩ := k30_openM hMe306
                  have hv306_2 := hcc306 2 _ rfl
                  rw [add_field _ _ 2 (by omega)] at hv306_2
                  replace hv306_2 := Option.some.inj (hv306_2.symm.trans hx306_2)
                  rw [hv306_2] at ge306_2
                  have HL306_2 := Aside0.mk (show Kd.R (Kd.int .i32) 21 _ _ _ _ ((rd_T30 t303 (ji11)).f2) from ge306_2)
                  clear hv306_2 ge306_2
                  have hv306_3 := hcc306 3 _ rfl
                  rw [add_field _ _ 3 (by omega)] at hv306_3
                  replace hv306_3 := Option.some.inj (hv306_3.symm.trans hx306_3)
                  rw [hv306_3] at ge306_3
                  have HL306_3 := Aside0.mk (show Kd.R k40 40 _ _ _ _ ((rd_T30 t303 (ji11)).f3) from ge306_3)
                  clear hv306_3 ge306_3
                  have hv306_4 := hcc306 4 _ rfl
                  rw [add_field _ _ 4 (by omega)] at hv306_4
                  replace hv306_4 := Option.some.inj (hv306_4.symm.trans hx306_4)
                  rw [hv306_4] at ge306_4
                  have HL306_4 := Aside0.mk (show Kd.R k42 42 _ _ _ _ ((rd_T30 t303 (ji11)).f4) from ge306_4)
                  clear hv306_4 ge306_4
                  clear hcc306 hce306
                  have HR306_2 := Aside0.mk hi306_2
                  have HC306_2 := Aside0.mk hl306_2
                  clear hi306_2 hl306_2
                  have HR306_3 := Aside0.mk hi306_3
                  have HC306_3 := Aside0.mk hl306_3
                  clear hi306_3 hl306_3
                  have HR306_4 := Aside0.mk hi306_4
                  have HC306_4 := Aside0.mk hl306_4
                  clear hi306_4 hl306_4
                  replace p306 := eq_true p306
                  replace q306 := eq_true q306
                  have p310 : 0 ≤ ((ji11) : Int) := of_decide_eq_true (by first | (with_reducible assumption) | assumption)
                  have q310 : (ji11) < (t303.length : Int) := of_decide_eq_true (by first | (with_reducible assumption) | assumption)
                  obtain ⟨ad310, A310_2, c310_2, A310_3, c310_3, A310_4, c310_4, e310, hx310_0, hx310_1, hx310_2, hx310_3, hx310_4, hl310_2, hi310_2, hl310_3, hi310_3, hl310_4, hi310_4⟩ := at_T30 (Kd.S_reads' HO_5.out).2.2 (ji11) p310 q310
                  obtain rfl : ad306 = ad310 := (by injection e310)
                  obtain ⟨ce310, hce310, hMe310, hcc310⟩ := Kd.S_get HO_5.out z30 (ji11) p310 (by first | exact q310 | exact of_decide_eq_true (by first | (with_reducible assumption) | assumption) | (have e_ := (Kd.S_reads' HO_5.out).1; omega))
                  obtain ⟨ve310_2, ve310_3, ve310_4, rfl, ge310_2, ge310_3, ge310_4⟩ := k30_openM hMe310
                  have hv310_2 := hcc310 2 _ rfl
                  rw [add_field _ _ 2 (by omega)] at hv310_2
                  replace hv310_2 := Option.some.inj (hv310_2.symm.trans hx310_2)
                  rw [hv310_2] at ge310_2
                  have HL310_2 := Aside0.mk (show Kd.R (Kd.int .i32) 21 _ _ _ _ ((rd_T30 t303 (ji11)).f2) from ge310_2)
                  clear hv310_2 ge310_2
                  have hv310_3 := hcc310 3 _ rfl
                  rw [add_field _ _ 3 (by omega)] at hv310_3
                  replace hv310_3 := Option.some.inj (hv310_3.symm.trans hx310_3)
                  rw [hv310_3] at ge310_3
                  have HL310_3 := Aside0.mk (show Kd.R k40 40 _ _ _ _ ((rd_T30 t303 (ji11)).f3) from ge310_3)
                  clear hv310_3 ge310_3
                  have hv310_4 := hcc310 4 _ rfl
                  rw [add_field _ _ 4 (by omega)] at hv310_4
                  replace hv310_4 := Option.some.inj (hv310_4.symm.trans hx310_4)
                  rw [hv310_4] at ge310_4
                  have HL310_4 := Aside0.mk (show Kd.R k42 42 _ _ _ _ ((rd_T30 t303 (ji11)).f4) from ge310_4)
                  clear hv310_4 ge310_4
                  clear hcc310 hce310
                  have HR310_2 := Aside0.mk hi310_2
                  have HC310_2 := Aside0.mk hl310_2
                  clear hi310_2 hl310_2
                  have HR310_3 := Aside0.mk hi310_3
                  have HC310_3 := Aside0.mk hl310_3
                  clear hi310_3 hl310_3
                  have HR310_4 := Aside0.mk hi310_4
                  have HC310_4 := Aside0.mk hl310_4
                  clear hi310_4 hl310_4
                  replace p310 := eq_true p310
                  replace q310 := eq_true q310
                  have ea_ := Option.some.inj (hx306_2.symm.trans hx310_2)
                  injection ea_ with ea_ en_ ec_
                  subst ea_
                  subst ec_
                  clear en_
                  have ea_ := Option.some.inj (hx306_3.symm.trans hx310_3)
                  injection ea_ with ea_ en_ ec_
                  subst ea_
                  subst ec_
                  clear en_
                  have ea_ := Option.some.inj (hx306_4.symm.trans hx310_4)
                  injection ea_ with ea_ en_ ec_
                  subst ea_
                  subst ec_
                  clear en_
                  go_wp2
                  go_roundg k1
                  case measure => have := HK1.out; omega
                  case rel => exact ⟨(wrap64 (x17_1 + 1)), (by first | rfl | (simp; done) | (simp [*]; done)), H', ⟨by have := HK1.out; omega⟩, ⟨by (with_reducible repeat (first | apply Kd.S_alloc | apply Kd.S_drewN | apply Kd.S_drew)); exact HO_5.out⟩, ⟨by repeat (first | (with_reducible first | exact HB.out | apply below_alloc | apply pw_below_drewN | apply below_drew1) | exact HB.out | exact Below.refl _ _)⟩⟩
              · rw [if_neg c13] at H
                exact absurd H (by simp)
            · rw [if_neg c12] at H
              exact absurd H (by simp)
          · rw [if_neg c10] at H
            have c10b0 : decide (0 < x17_1) = false := decide_eq_false c10
            clear c10
            have H' := Aside0.mk H
            clear H
            go_wp2
            go_roundg k1
            case measure => have := HK1.out; omega
            case rel => exact ⟨(wrap64 (x17_1 + 1)), (by first | rfl | (simp; done) | (simp [*]; done)), H', ⟨by have := HK1.out; omega⟩, ⟨by (with_reducible repeat (first | apply Kd.S_alloc | apply Kd.S_drewN | apply Kd.S_drew)); exact HO_5.out⟩, ⟨by repeat (first | (with_reducible first | exact HB.out | apply below_alloc | apply pw_below_drewN | apply below_drew1) | exact HB.out | exact Below.refl _ _)⟩⟩
        · rw [if_neg c9] at H
          have c9b0 : decide (x17_1 < (t303.length : Int)) = false := decide_eq_false c9
          clear c9
          have HC19 := Aside0.mk H
          clear H
          go_upto_region 11 with (fail)
          go_cut [78] (fun v78 wc => ∃ (kq : Nat) (x78_18 : Bool), v78 = .bool x78_18 ∧ Aside0 (rubriclaw16_NormalTwice.j1 kq t303 x78_18 = some r) ∧ Aside0 (kq ≤ k1) ∧ Aside0 (Kd.S k30 30 wc w.heap.size (fun _ => True) (.slice Ao8 t303.length co8) t303) ∧ Aside0 (Below w.heap.size w wc))
          case first =>
            have H := HC19.out
            clear HC19
            by_cases c20 : (wrap64 ((t303.length : Int) - 1)) ≥ 0
            · rw [if_pos c20] at H
              have c20b0 : decide (0 ≤ (wrap64 ((t303.length : Int) - 1))) = true := decide_eq_true c20
              clear c20
              (first | rw [c20b0] | (simp only [i64_w, i32_w]; rw [c20b0]) | skip)
              obtain ⟨ji21, hji21⟩ : ∃ j_ : Int, (wrap64 ((t303.length : Int) - 1)) = j_ := ⟨_, rfl⟩
              replace H : (if 0 ≤ (ji21) then (if (ji21) < (t303.length : Int) then (if ((rd_T30 t303 (ji21)).f0) = 1 then (rubriclaw16_NormalTwice.j1 k1 t303 ((((rd_T30 t303 (ji21)).f4).length : Int) == 0)) else (rubriclaw16_NormalTwice.j1 k1 t303 false)) else (none)) else (none)) = some r := by first | (rw [hji21] at H; exact H) | (simp only [hji21] at H ⊢; exact H)
              (try rw [hji21] at c20b0)
              have hji21w : (IntKind.i64.wrap ((t303.length : Int) - 1)) = ji21 := (i64_w _).trans hji21
              by_cases c22 : 0 ≤ (ji21)
              · rw [if_pos c22] at H
                have c22b0 : decide (0 ≤ (ji21)) = true := decide_eq_true c22
                clear c22
                by_cases c23 : (ji21) < (t303.length : Int)
                · rw [if_pos c23] at H
                  have c23b0 : decide ((ji21) < (t303.length : Int)) = true := decide_eq_true c23
                  clear c23
                  by_cases c24 : ((rd_T30 t303 (ji21)).f0) = 1
                  · rw [if_pos c24] at H
                    have c24b0 : (((rd_T30 t303 (ji21)).f0) == 1) = true := beq_iff_eq.mpr c24
                    have c24b1 : (((rd_T30 t303 (ji21)).f0) != 1) = false := bne_eq_false_iff_eq.mpr c24
                    clear c24
                    have H' := Aside0.mk H
                    clear H
                    have p311 : 0 ≤ ((ji21) : Int) := of_decide_eq_true (by first | (with_reducible assumption) | assumption)
                    have q311 : (ji21) < (t303.length : Int) := of_decide_eq_true (by first | (with_reducible assumption) | assumption)
                    obtain ⟨ad311, A311_2, c311_2, A311_3, c311_3, A311_4, c311_4, e311, hx311_0, hx311_1, hx311_2, hx311_3, hx311_4, hl311_2, hi311_2, hl311_3, hi311_3, hl311_4, hi311_4⟩ := at_T30 (Kd.S_reads' HO_5.out).2.2 (ji21) p311 q311
                    cases e311
                    obtain ⟨ce311, hce311, hMe311, hcc311⟩ := Kd.S_get HO_5.out z30 (ji21) p311 (by first | exact q311 | exact of_decide_eq_true (by first | (with_reducible assumption) | assumption) | (have e_ := (Kd.S_reads' HO_5.out).1; omega))
                    obtain ⟨ve311_2, ve311_3, ve311_4, rfl, ge311_2, ge311_3, ge311_4⟩ := k30_openM hMe311
                    have hv311_2 := hcc311 2 _ rfl
                    rw [add_field _ _ 2 (by omega)] at hv311_2
                    replace hv311_2 := Option.some.inj (hv311_2.symm.trans hx311_2)
                    rw [hv311_2] at ge311_2
                    have HL311_2 := Aside0.mk (show Kd.R (Kd.int .i32) 21 _ _ _ _ ((rd_T30 t303 (ji21)).f2) from ge311_2)
                    clear hv311_2 ge311_2
                    have hv311_3 := hcc311 3 _ rfl
                    rw [add_field _ _ 3 (by omega)] at hv311_3
                    replace hv311_3 := Option.some.inj (hv311_3.symm.trans hx311_3)
                    rw [hv311_3] at ge311_3
                    have HL311_3 := Aside0.mk (show Kd.R k40 40 _ _ _ _ ((rd_T30 t303 (ji21)).f3) from ge311_3)
                    clear hv311_3 ge311_3
                    have hv311_4 := hcc311 4 _ rfl
                    rw [add_field _ _ 4 (by omega)] at hv311_4
                    replace hv311_4 := Option.some.inj (hv311_4.symm.trans hx311_4)
                    rw [hv311_4] at ge311_4
                    have HL311_4 := Aside0.mk (show Kd.R k42 42 _ _ _ _ ((rd_T30 t303 (ji21)).f4) from ge311_4)
                    clear hv311_4 ge311_4
                    clear hcc311 hce311
                    have HR311_2 := Aside0.mk hi311_2
                    have HC311_2 := Aside0.mk hl311_2
                    clear hi311_2 hl311_2
                    have HR311_3 := Aside0.mk hi311_3
                    have HC311_3 := Aside0.mk hl311_3
                    clear hi311_3 hl311_3
                    have HR311_4 := Aside0.mk hi311_4
                    have HC311_4 := Aside0.mk hl311_4
                    clear hi311_4 hl311_4
                    replace p311 := eq_true p311
                    replace q311 := eq_true q311
                    have p312 : 0 ≤ ((ji21) : Int) := of_decide_eq_true (by first | (with_reducible assumption) | assumption)
                    have q312 : (ji21) < (t303.length : Int) := of_decide_eq_true (by first | (with_reducible assumption) | assumption)
                    obtain ⟨ad312, A312_2, c312_2, A312_3, c312_3, A312_4, c312_4, e312, hx312_0, hx312_1, hx312_2, hx312_3, hx312_4, hl312_2, hi312_2, hl312_3, hi312_3, hl312_4, hi312_4⟩ := at_T30 (Kd.S_reads' HO_5.out).2.2 (ji21) p312 q312
                    obtain rfl : ad311 = ad312 := (by injection e312)
                    obtain ⟨ce312, hce312, hMe312, hcc312⟩ := Kd.S_get HO_5.out z30 (ji21) p312 (by first | exact q312 | exact of_decide_eq_true (by first | (with_reducible assumption) | assumption) | (have e_ := (Kd.S_reads' HO_5.out).1; omega))
                    obtain ⟨ve312_2, ve312_3, ve312_4, rfl, ge312_2, ge312_3, ge312_4⟩ := k30_openM hMe312
                    have hv312_2 := hcc312 2 _ rfl
                    rw [add_field _ _ 2 (by omega)] at hv312_2
                    replace hv312_2 := Option.some.inj (hv312_2.symm.trans hx312_2)
                    rw [hv312_2] at ge312_2
                    have HL312_2 := Aside0.mk (show Kd.R (Kd.int .i32) 21 _ _ _ _ ((rd_T30 t303 (ji21)).f2) from ge312_2)
                    clear hv312_2 ge312_2
                    have hv312_3 := hcc312 3 _ rfl
                    rw [add_field _ _ 3 (by omega)] at hv312_3
                    replace hv312_3 := Option.some.inj (hv312_3.symm.trans hx312_3)
                    rw [hv312_3] at ge312_3
                    have HL312_3 := Aside0.mk (show Kd.R k40 40 _ _ _ _ ((rd_T30 t303 (ji21)).f3) from ge312_3)
                    clear hv312_3 ge312_3
                    have hv312_4 := hcc312 4 _ rfl
                    rw [add_field _ _ 4 (by omega)] at hv312_4
                    replace hv312_4 := Option.some.inj (hv312_4.symm.trans hx312_4)
                    rw [hv312_4] at ge312_4
                    have HL312_4 := Aside0.mk (show Kd.R k42 42 _ _ _ _ ((rd_T30 t303 (ji21)).f4) from ge312_4)
                    clear hv312_4 ge312_4
                    clear hcc312 hce312
                    have HR312_2 := Aside0.mk hi312_2
                    have HC312_2 := Aside0.mk hl312_2
                    clear hi312_2 hl312_2
                    have HR312_3 := Aside0.mk hi312_3
                    have HC312_3 := Aside0.mk hl312_3
                    clear hi312_3 hl312_3
                    have HR312_4 := Aside0.mk hi312_4
                    have HC312_4 := Aside0.mk hl312_4
                    clear hi312_4 hl312_4
                    replace p312 := eq_true p312
                    replace q312 := eq_true q312
                    have ea_ := Option.some.inj (hx311_2.symm.trans hx312_2)
                    injection ea_ with ea_ en_ ec_
                    subst ea_
                    subst ec_
                    clear en_
                    have ea_ := Option.some.inj (hx311_3.symm.trans hx312_3)
                    injection ea_ with ea_ en_ ec_
                    subst ea_
                    subst ec_
                    clear en_
                    have ea_ := Option.some.inj (hx311_4.symm.trans hx312_4)
                    injection ea_ with ea_ en_ ec_
                    subst ea_
                    subst ec_
                    clear en_
                    go_wp2
                    (try simp only [← hji21])
                    go_meet
                    case rel => exact ⟨_, (((((rd_T30 t303 (ji21)).f4).length : Int) == 0)), (by first | rfl | (simp; done) | (simp only [← hji21] <;> (first | rfl | simp)) | (simp [*]; done)), H', ⟨by have := HK1.out; first | omega | exact Nat.le_refl _⟩, ⟨by (with_reducible repeat (first | apply Kd.S_alloc | apply Kd.S_drewN | apply Kd.S_drew)); exact HO_5.out⟩, ⟨by repeat (first | (with_reducible first | exact HB.out | apply below_alloc | apply pw_below_drewN | apply below_drew1) | exact HB.out | exact Below.refl _ _)⟩⟩
                  · rw [if_neg c24] at H
                    have c24b0 : (((rd_T30 t303 (ji21)).f0) == 1) = false := beq_eq_false_iff_ne.mpr c24
                    have c24b1 : (((rd_T30 t303 (ji21)).f0) != 1) = true := bne_iff_ne.mpr c24
                    have H' := Aside0.mk H
                    clear H
                    have p311 : 0 ≤ ((ji21) : Int) := of_decide_eq_true (by first | (with_reducible assumption) | assumption)
                    have q311 : (ji21) < (t303.length : Int) := of_decide_eq_true (by first | (with_reducible assumption) | assumption)
                    obtain ⟨ad311, A311_2, c311_2, A311_3, c311_3, A311_4, c311_4, e311, hx311_0, hx311_1, hx311_2, hx311_3, hx311_4, hl311_2, hi311_2, hl311_3, hi311_3, hl311_4, hi311_4⟩ := at_T30 (Kd.S_reads' HO_5.out).2.2 (ji21) p311 q311
                    cases e311
                    obtain ⟨ce311, hce311, hMe311, hcc311⟩ := Kd.S_get HO_5.out z30 (ji21) p311 (by first | exact q311 | exact of_decide_eq_true (by first | (with_reducible assumption) | assumption) | (have e_ := (Kd.S_reads' HO_5.out).1; omega))
                    obtain ⟨ve311_2, ve311_3, ve311_4, rfl, ge311_2, ge311_3, ge311_4⟩ := k30_openM hMe311
                    have hv311_2 := hcc311 2 _ rfl
                    rw [add_field _ _ 2 (by omega)] at hv311_2
                    replace hv311_2 := Option.some.inj (hv311_2.symm.trans hx311_2)
                    rw [hv311_2] at ge311_2
                    have HL311_2 := Aside0.mk (show Kd.R (Kd.int .i32) 21 _ _ _ _ ((rd_T30 t303 (ji21)).f2) from ge311_2)
                    clear hv311_2 ge311_2
                    have hv311_3 := hcc311 3 _ rfl
                    rw [add_field _ _ 3 (by omega)] at hv311_3
                    replace hv311_3 := Option.some.inj (hv311_3.symm.trans hx311_3)
                    rw [hv311_3] at ge311_3
                    have HL311_3 := Aside0.mk (show Kd.R k40 40 _ _ _ _ ((rd_T30 t303 (ji21)).f3) from ge311_3)
                    clear hv311_3 ge311_3
                    have hv311_4 := hcc311 4 _ rfl
                    rw [add_field _ _ 4 (by omega)] at hv311_4
                    replace hv311_4 := Option.some.inj (hv311_4.symm.trans hx311_4)
                    rw [hv311_4] at ge311_4
                    have HL311_4 := Aside0.mk (show Kd.R k42 42 _ _ _ _ ((rd_T30 t303 (ji21)).f4) from ge311_4)
                    clear hv311_4 ge311_4
                    clear hcc311 hce311
                    have HR311_2 := Aside0.mk hi311_2
                    have HC311_2 := Aside0.mk hl311_2
                    clear hi311_2 hl311_2
                    have HR311_3 := Aside0.mk hi311_3
                    have HC311_3 := Aside0.mk hl311_3
                    clear hi311_3 hl311_3
                    have HR311_4 := Aside0.mk hi311_4
                    have HC311_4 := Aside0.mk hl311_4
                    clear hi311_4 hl311_4
                    replace p311 := eq_true p311
                    replace q311 := eq_true q311
                    go_wp2
                    go_meet
                    case rel => exact ⟨_, (false), (by first | rfl | (simp; done) | (simp [*]; done)), H', ⟨by have := HK1.out; first | omega | exact Nat.le_refl _⟩, ⟨by (with_reducible repeat (first | apply Kd.S_alloc | apply Kd.S_drewN | apply Kd.S_drew)); exact HO_5.out⟩, ⟨by repeat (first | (with_reducible first | exact HB.out | apply below_alloc | apply pw_below_drewN | apply below_drew1) | exact HB.out | exact Below.refl _ _)⟩⟩
                · rw [if_neg c23] at H
                  exact absurd H (by simp)
              · rw [if_neg c22] at H
                exact absurd H (by simp)
            · rw [if_neg c20] at H
              have c20b0 : decide (0 ≤ (wrap64 ((t303.length : Int) - 1))) = false := decide_eq_false c20
              clear c20
              (first | rw [c20b0] | (simp only [i64_w, i32_w]; rw [c20b0]) | skip)
              have H' := Aside0.mk H
              clear H
              go_wp2
              go_meet
              case rel => exact ⟨_, (false), (by first | rfl | (simp; done) | (simp [*]; done)), H', ⟨by have := HK1.out; first | omega | exact Nat.le_refl _⟩, ⟨by (with_reducible repeat (first | apply Kd.S_alloc | apply Kd.S_drewN | apply Kd.S_drew)); exact HO_5.out⟩, ⟨by repeat (first | (with_reducible first | exact HB.out | apply below_alloc | apply pw_below_drewN | apply below_drew1) | exact HB.out | exact Below.refl _ _)⟩⟩
          case rest =>
            clear HC19
            try clear c1
            try clear c2
            try clear p2
            try clear c3
            try clear p3
            try clear q3
            try clear hx3
            try clear p6
            try clear c9
            try clear c9b0
            try clear c9e
            try clear c9b0d c9b0p
            try clear c9b0d
            try clear c10
            try clear c10b0
            try clear c10e
            try clear c10b0d c10b0p
            try clear c10b0d
            try clear c12
            try clear c13
            try clear c14
            try clear c14b0
            try clear c14e
            try clear c14b0d c14b0p
            try clear c14b0d
            try clear c14b1
            try clear c14b1d c14b1p
            try clear c14b1d
            try clear c15
            try clear c16
            try clear c17
            try clear c17b0
            try clear c17e
            try clear c17b0d c17b0p
            try clear c17b0d
            try clear c17b1
            try clear c17b1d c17b1p
            try clear c17b1d
            try clear c18
            try clear c18b0
            try clear c18e
            try clear c18b0d c18b0p
            try clear c18b0d
            try clear c18b1
            try clear c18b1d c18b1p
            try clear c18b1d
            try clear c20
            try clear c20b0
            try clear c20e
            try clear c20b0d c20b0p
            try clear c20b0d
            try clear c22
            try clear c22b0
            try clear c22e
            try clear c22b0d c22b0p
            try clear c22b0d
            try clear c23
            try clear c23b0
            try clear c23e
            try clear c23b0d c23b0p
            try clear c23b0d
            try clear c24
            try clear c24b0
            try clear c24e
            try clear c24b0d c24b0p
            try clear c24b0d
            try clear c24b1
            try clear c24b1d c24b1p
            try clear c24b1d
            try clear hx306_0
            try clear hx306_1
            try clear hx306_2
            try clear hx306_3
            try clear hx306_4
            try clear hx307_0
            try clear hx307_1
            try clear hx307_2
            try clear hx307_3
            try clear hx307_4
            try clear hx308_0
            try clear hx308_1
            try clear hx308_2
            try clear hx308_3
            try clear hx308_4
            try clear hx309_0
            try clear hx309_1
            try clear hx309_2
            try clear hx309_3
            try clear hx309_4
            try clear hx310_0
            try clear hx310_1
            try clear hx310_2
            try clear hx310_3
            try clear hx310_4
            try clear hx311_0
            try clear hx311_1
            try clear hx311_2
            try clear hx311_3
            try clear hx311_4
            try clear hx312_0
            try clear hx312_1
            try clear hx312_2
            try clear hx312_3
            try clear hx312_4
            try clear p306
            try clear p307
            try clear p308
            try clear p309
            try clear p310
            try clear p311
            try clear p312
            try clear q306
            try clear q307
            try clear q308
            try clear q309
            try clear q310
            try clear q311
            try clear q312
            obtain ⟨kq, x78_18, rfl, HA, HJ18, HO_5, HB⟩ := hcut
            cases kq with
            | zero => exact absurd HA.out (by simp [rubriclaw16_NormalTwice.j1])
            | succ kj18 =>
              have H := HA.out
              clear HA
              simp only [rubriclaw16_NormalTwice.j1] at H
              by_cases c25 : x78_18 = true
              · subst c25
                have H1 : (some false) = some r := by rw [if_pos rfl] at H; exact H
                clear H
                have H := H1
                clear H1
                obtain rfl := Option.some.inj H
                go_wp2
                go_ret
                exact ⟨by first | rfl | (simp [errW_none, errW_some] <;> rfl) | (simp [*, errW_none, errW_some] <;> rfl), by repeat (first | (with_reducible first | exact HB.out | apply below_alloc | apply pw_below_drewN | apply below_drew1) | exact HB.out | exact Below.refl _ _)⟩
              · replace c25 := Bool.eq_false_iff.mpr c25
                subst c25
                have H1 : ((normal_Of.f t303).bind fun t313 => ((ops_Same.f t313 t303).bind fun t316 => (if t316 = true then ((rubriclaw16_known.f).bind fun t317 => (some t317)) else (some false)))) = some r := by rw [if_neg (show ¬ (false = true) by decide)] at H; exact H
                clear H
                have H := H1
                clear H1
                replace H := Option.bind_eq_some_iff.mp H
                obtain ⟨t313, A260, H⟩ := H
                replace H : ((ops_Same.f t313 t303).bind fun t316 => (if t316 = true then ((rubriclaw16_known.f).bind fun t317 => (some t317)) else (some false))) = some r := H
                have A26 := Aside0.mk A260
                clear A260
                replace H := Option.bind_eq_some_iff.mp H
                obtain ⟨t316, A270, H⟩ := H
                replace H : (if t316 = true then ((rubriclaw16_known.f).bind fun t317 => (some t317)) else (some false)) = some r := H
                have A27 := Aside0.mk A270
                clear A270
                by_cases c28 : t316 = true
                · subst c28
                  have H1 : ((rubriclaw16_known.f).bind fun t317 => (some t317)) = some r := by rw [if_pos rfl] at H; exact H
                  clear H
                  have H := H1
                  clear H1
                  replace H := Option.bind_eq_some_iff.mp H
                  obtain ⟨t317, A290, H⟩ := H
                  replace H : (some t317) = some r := H
                  have A29 := Aside0.mk A290
                  clear A290
                  obtain rfl := Option.some.inj H
                  go_wp2_with (first | ((with_reducible refine gate_callee (f := 12) rfl ?_); refine goesL_ (some 80) rfl rfl Try.func12 (by kernel_rfl) rfl #[.slice Ao8 t303.length co8] rfl (by (try simp only [List.map_toArray, List.map_cons, List.map_nil]); first | done | rfl | (simp only [List.length_drop, List.length_take]; rfl)) ?_; (with_reducible refine (normal_Of.calls _ _ t303 t313 _ ?side1 ?side2 A26.out).mono ?_); (case side1 => repeat (first | exact (Kd.S_reads' HO_5.out).2.2 | (with_reducible refine Kd.C_alloc ?_ _) | (with_reducible refine Kd.C_drewN ?_ _) | (with_reducible refine Kd.C_drew ?_))); (case side2 => exact (Kd.S_reads' HO_5.out).2.1); rintro e w30 ⟨v314, rfl, ho0, hb⟩; refine ⟨_, rfl, ?_⟩; have n0_ := Aside0.mk (Kd.S_elder' (by (with_reducible repeat (first | apply Kd.S_alloc | apply Kd.S_drewN | apply Kd.S_drew)); exact HO_5.out) (Kd.S_base ho0) hb); have n1_ := Aside0.mk (Kd.S_lower (Kd.S_new' ho0 (Kd.S_lt (by (with_reducible repeat (first | apply Kd.S_alloc | apply Kd.S_drewN | apply Kd.S_drew)); exact HO_5.out))) (below_size (by repeat (first | (with_reducible first | exact HB.out | apply below_alloc | apply pw_below_drewN | apply below_drew1) | exact HB.out | exact Below.refl _ _)))); have n2_ := Aside0.mk (below_step (by repeat (first | (with_reducible first | exact HB.out | apply below_alloc | apply pw_below_drewN | apply below_drew1) | exact HB.out | exact Below.refl _ _)) hb); clear HO_5; clear HB; have HO_5 := n0_; have HO315 := n1_; have HB := n2_; clear n0_ n1_ n2_; (try clear hb); (try clear hb2); (try clear hk); (try clear hi); (try clear ho0); obtain ⟨Ao31, co31, eo31⟩ := Kd.S_slice HO315.out; subst eo31) | ((with_reducible refine gate_callee (f := 11) rfl ?_); refine goesL_ (some 82) rfl rfl Try.func11 (by kernel_rfl) rfl #[.slice Ao31 t313.length co31, .slice Ao8 t303.length co8] rfl (by (try simp only [List.map_toArray, List.map_cons, List.map_nil]); first | done | rfl | (simp only [List.length_drop, List.length_take]; rfl)) ?_; (with_reducible refine (ops_Same.calls _ _ t313 _ _ t303 true _ ?side1 ?side2 ?side3 ?side4 A27.out).mono ?_); (case side1 => repeat (first | exact (Kd.S_reads' HO315.out).2.2 | (with_reducible refine Kd.C_alloc ?_ _) | (with_reducible refine Kd.C_drewN ?_ _) | (with_reducible refine Kd.C_drew ?_))); (case side2 => exact (Kd.S_reads' HO315.out).2.1); (case side3 => repeat (first | exact (Kd.S_reads' HO_5.out).2.2 | (with_reducible refine Kd.C_alloc ?_ _) | (with_reducible refine Kd.C_drewN ?_ _) | (with_reducible refine Kd.C_drew ?_))); (case side4 => exact (Kd.S_reads' HO_5.out).2.1); rintro e w32 ⟨rfl, hb⟩; refine ⟨_, rfl, ?_⟩; have n0_ := Aside0.mk (Kd.S_below (by (with_reducible repeat (first | apply Kd.S_alloc | apply Kd.S_drewN | apply Kd.S_drew)); exact HO_5.out) hb); have n1_ := Aside0.mk (Kd.S_below (by (with_reducible repeat (first | apply Kd.S_alloc | apply Kd.S_drewN | apply Kd.S_drew)); exact HO315.out) hb); have n2_ := Aside0.mk (below_step (by repeat (first | (with_reducible first | exact HB.out | apply below_alloc | apply pw_below_drewN | apply below_drew1) | exact HB.out | exact Below.refl _ _)) hb); clear HO_5; clear HO315; clear HB; have HO_5 := n0_; have HO315 := n1_; have HB := n2_; clear n0_ n1_ n2_; (try clear hb); (try clear hb2); (try clear hk); (try clear hi)) | (go_at_call 9; (with_reducible refine (rubriclaw16_known.calls  t317 _ A29.out).mono ?_); rintro e w33 ⟨rfl, hb⟩; have n0_ := Aside0.mk (Kd.S_below (by (with_reducible repeat (first | apply Kd.S_alloc | apply Kd.S_drewN | apply Kd.S_drew)); exact HO_5.out) hb); have n1_ := Aside0.mk (Kd.S_below (by (with_reducible repeat (first | apply Kd.S_alloc | apply Kd.S_drewN | apply Kd.S_drew)); exact HO315.out) hb); have n2_ := Aside0.mk (below_step (by repeat (first | (with_reducible first | exact HB.out | apply below_alloc | apply pw_below_drewN | apply below_drew1) | exact HB.out | exact Below.refl _ _)) hb); clear HO_5; clear HO315; clear HB; have HO_5 := n0_; have HO315 := n1_; have HB := n2_; clear n0_ n1_ n2_; (try clear hb); (try clear hb2); (try clear hk); (try clear hi)))
                  go_ret
                  exact ⟨by first | rfl | (simp [errW_none, errW_some] <;> rfl) | (simp [*, errW_none, errW_some] <;> rfl), by repeat (first | (with_reducible first | exact HB.out | apply below_alloc | apply pw_below_drewN | apply below_drew1) | exact HB.out | exact Below.refl _ _)⟩
                · replace c28 := Bool.eq_false_iff.mpr c28
                  subst c28
                  have H1 : (some false) = some r := by rw [if_neg (show ¬ (false = true) by decide)] at H; exact H
                  clear H
                  have H := H1
                  clear H1
                  obtain rfl := Option.some.inj H
                  go_wp2_with (first | ((with_reducible refine gate_callee (f := 12) rfl ?_); refine goesL_ (some 80) rfl rfl Try.func12 (by kernel_rfl) rfl #[.slice Ao8 t303.length co8] rfl (by (try simp only [List.map_toArray, List.map_cons, List.map_nil]); first | done | rfl | (simp only [List.length_drop, List.length_take]; rfl)) ?_; (with_reducible refine (normal_Of.calls _ _ t303 t313 _ ?side1 ?side2 A26.out).mono ?_); (case side1 => repeat (first | exact (Kd.S_reads' HO_5.out).2.2 | (with_reducible refine Kd.C_alloc ?_ _) | (with_reducible refine Kd.C_drewN ?_ _) | (with_reducible refine Kd.C_drew ?_))); (case side2 => exact (Kd.S_reads' HO_5.out).2.1); rintro e w34 ⟨v314, rfl, ho0, hb⟩; refine ⟨_, rfl, ?_⟩; have n0_ := Aside0.mk (Kd.S_elder' (by (with_reducible repeat (first | apply Kd.S_alloc | apply Kd.S_drewN | apply Kd.S_drew)); exact HO_5.out) (Kd.S_base ho0) hb); have n1_ := Aside0.mk (Kd.S_lower (Kd.S_new' ho0 (Kd.S_lt (by (with_reducible repeat (first | apply Kd.S_alloc | apply Kd.S_drewN | apply Kd.S_drew)); exact HO_5.out))) (below_size (by repeat (first | (with_reducible first | exact HB.out | apply below_alloc | apply pw_below_drewN | apply below_drew1) | exact HB.out | exact Below.refl _ _)))); have n2_ := Aside0.mk (below_step (by repeat (first | (with_reducible first | exact HB.out | apply below_alloc | apply pw_below_drewN | apply below_drew1) | exact HB.out | exact Below.refl _ _)) hb); clear HO_5; clear HB; have HO_5 := n0_; have HO315 := n1_; have HB := n2_; clear n0_ n1_ n2_; (try clear hb); (try clear hb2); (try clear hk); (try clear hi); (try clear ho0); obtain ⟨Ao35, co35, eo35⟩ := Kd.S_slice HO315.out; subst eo35) | ((with_reducible refine gate_callee (f := 11) rfl ?_); refine goesL_ (some 82) rfl rfl Try.func11 (by kernel_rfl) rfl #[.slice Ao35 t313.length co35, .slice Ao8 t303.length co8] rfl (by (try simp only [List.map_toArray, List.map_cons, List.map_nil]); first | done | rfl | (simp only [List.length_drop, List.length_take]; rfl)) ?_; (with_reducible refine (ops_Same.calls _ _ t313 _ _ t303 false _ ?side1 ?side2 ?side3 ?side4 A27.out).mono ?_); (case side1 => repeat (first | exact (Kd.S_reads' HO315.out).2.2 | (with_reducible refine Kd.C_alloc ?_ _) | (with_reducible refine Kd.C_drewN ?_ _) | (with_reducible refine Kd.C_drew ?_))); (case side2 => exact (Kd.S_reads' HO315.out).2.1); (case side3 => repeat (first | exact (Kd.S_reads' HO_5.out).2.2 | (with_reducible refine Kd.C_alloc ?_ _) | (with_reducible refine Kd.C_drewN ?_ _) | (with_reducible refine Kd.C_drew ?_))); (case side4 => exact (Kd.S_reads' HO_5.out).2.1); rintro e w36 ⟨rfl, hb⟩; refine ⟨_, rfl, ?_⟩; have n0_ := Aside0.mk (Kd.S_below (by (with_reducible repeat (first | apply Kd.S_alloc | apply Kd.S_drewN | apply Kd.S_drew)); exact HO_5.out) hb); have n1_ := Aside0.mk (Kd.S_below (by (with_reducible repeat (first | apply Kd.S_alloc | apply Kd.S_drewN | apply Kd.S_drew)); exact HO315.out) hb); have n2_ := Aside0.mk (below_step (by repeat (first | (with_reducible first | exact HB.out | apply below_alloc | apply pw_below_drewN | apply below_drew1) | exact HB.out | exact Below.refl _ _)) hb); clear HO_5; clear HO315; clear HB; have HO_5 := n0_; have HO315 := n1_; have HB := n2_; clear n0_ n1_ n2_; (try clear hb); (try clear hb2); (try clear hk); (try clear hi)))
                  go_ret
                  exact ⟨by first | rfl | (simp [errW_none, errW_some] <;> rfl) | (simp [*, errW_none, errW_some] <;> rfl), by repeat (first | (with_reducible first | exact HB.out | apply below_alloc | apply pw_below_drewN | apply below_drew1) | exact HB.out | exact Below.refl _ _)⟩
  · replace c4 := Bool.eq_false_iff.mpr c4
    subst c4
    have H1 : ((rubriclaw16_known.f).bind fun t302 => (some t302)) = some r := by rw [if_neg (show ¬ (false = true) by decide)] at H; exact H
    clear H
    have H := H1
    clear H1
    replace H := Option.bind_eq_some_iff.mp H
    obtain ⟨t302, A370, H⟩ := H
    replace H : (some t302) = some r := H
    have A37 := Aside0.mk A370
    clear A370
    obtain rfl := Option.some.inj H
    go_enter Try.func7, Try.ntmps7
    go_wp2_with (first | ((with_reducible refine gate_callee (f := 8) rfl ?_); refine goesL_ (some 10) rfl rfl Try.func8 (by kernel_rfl) rfl #[.slice A0 l0.length c0, .slice A1 l1.length c1] rfl (by (try simp only [List.map_toArray, List.map_cons, List.map_nil]); first | done | rfl | (simp only [List.length_drop, List.length_take]; rfl)) ?_; (with_reducible refine (rubriclaw16_tame.calls k _ _ l0 _ _ l1 false _ ?side1 ?side2 ?side3 ?side4 A3.out).mono ?_); (case side1 => repeat (first | exact HR0.out | (with_reducible refine Kd.C_alloc ?_ _) | (with_reducible refine Kd.C_drewN ?_ _) | (with_reducible refine Kd.C_drew ?_))); (case side2 => exact HC0.out); (case side3 => repeat (first | exact HR1.out | (with_reducible refine Kd.C_alloc ?_ _) | (with_reducible refine Kd.C_drewN ?_ _) | (with_reducible refine Kd.C_drew ?_))); (case side4 => exact HC1.out); rintro e w38 ⟨rfl, hb⟩; refine ⟨_, rfl, ?_⟩; have n0_ := Aside0.mk (below_step (by repeat (first | (with_reducible first | exact HB.out | apply below_alloc | apply pw_below_drewN | apply below_drew1) | exact HB.out | exact Below.refl _ _)) hb); clear HB; have HB := n0_; clear n0_; (try clear hb); (try clear hb2); (try clear hk); (try clear hi)) | ((with_reducible refine gate_callee (f := 9) rfl ?_); refine goesL_ (some 12) rfl rfl Try.func9 (by kernel_rfl) rfl #[] rfl (by (try simp only [List.map_toArray, List.map_cons, List.map_nil]); first | done | rfl | (simp only [List.length_drop, List.length_take]; rfl)) ?_; (with_reducible refine (rubriclaw16_known.calls  t302 _ A37.out).mono ?_); rintro e w39 ⟨rfl, hb⟩; refine ⟨_, rfl, ?_⟩; have n0_ := Aside0.mk (below_step (by repeat (first | (with_reducible first | exact HB.out | apply below_alloc | apply pw_below_drewN | apply below_drew1) | exact HB.out | exact Below.refl _ _)) hb); clear HB; have HB := n0_; clear n0_; (try clear hb); (try clear hb2); (try clear hk); (try clear hi)))
    go_ret
    exact ⟨by first | rfl | (simp [errW_none, errW_some] <;> rfl) | (simp [*, errW_none, errW_some] <;> rfl), by repeat (first | (with_reducible first | exact HB.out | apply below_alloc | apply pw_below_drewN | apply below_drew1) | exact HB.out | exact Below.refl _ _)⟩

end Go.Proofs.Ytmjeoknamoegpaa.P
