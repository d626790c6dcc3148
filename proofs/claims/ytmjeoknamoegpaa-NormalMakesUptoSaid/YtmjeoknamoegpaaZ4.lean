-- several texts in one: Px12 Eqs Maker Ins
import Derived.Test.YtmjeoknamoegpaaZ2
import Derived.Test.YtmjeoknamoegpaaZ3
import Derived.WalkSpells
namespace Go.Proofs.Ytmjeoknamoegpaa.P
open Go.RowKit Go.Proofs.YtmjeoknamoegpaaW.PrintWords Go.Proofs.YtmjeoknamoegpaaW.PrintLast Go.Proofs.YtmjeoknamoegpaaW.PrintMore
attribute [local go_sem] max2_int min2_int max_two min_two max_three min_three max_four min_four   -- for this text's walks alone
set_option linter.unusedVariables false
set_option linter.unusedSimpArgs false
attribute [local go_sem high] eqA40 eqA42
/-! ### slices_Equal_int32_int32: function 28 -/
def slices_Equal_int32_int32.l0 : Nat → List Int → List Int → Int → Int → Option (Bool)
 | 0, _, _, _, _ => none
 | k + 1, x0, x1, x12, x13 => if x13 < x12 then (if 0 ≤ x13 then (if x13 < (x0.length : Int) then (if x13 < (x1.length : Int) then (if (rd x0 x13) = (rd x1 x13) then (slices_Equal_int32_int32.l0 k x0 x1 x12 (wrap64 (x13 + 1))) else (some false)) else (none)) else (none)) else (none)) else (some true)
def slices_Equal_int32_int32.f (k : Nat) (l0 : List Int) (l1 : List Int) : Option (Bool) := if (l0.length : Int) = (l1.length : Int) then (slices_Equal_int32_int32.l0 k l0 l1 (l0.length : Int) 0) else (some false)
set_option maxHeartbeats 8000000 in
set_option maxRecDepth 100000 in
theorem slices_Equal_int32_int32.calls (k : Nat) (A0 : Option Addr) (c0 : Nat) (l0 : List Int) (A1 : Option Addr) (c1 : Nat) (l1 : List Int) (r : Bool) (w : World) (hr0 : Kd.C (Kd.int .i32) w A0 l0.length l0) (hc0 : l0.length ≤ c0) (hr1 : Kd.C (Kd.int .i32) w A1 l1.length l1) (hc1 : l1.length ≤ c1) (h : slices_Equal_int32_int32.f k l0 l1 = some r) :
  Calls Try.prog 28 #[.slice A0 l0.length c0, .slice A1 l1.length c1] w fun e w' => e = .returned (.bool r) ∧ Drawn0 w w' := by
 have HR0 := Aside0.mk hr0
 have HC0 := Aside0.mk hc0
 clear hr0 hc0
 have HR1 := Aside0.mk hr1
 have HC1 := Aside0.mk hc1
 clear hr1 hc1
 have H : (if (l0.length : Int) = (l1.length : Int) then (slices_Equal_int32_int32.l0 k l0 l1 (l0.length : Int) 0) else (some false)) = some r := h
 clear h
 by_cases c3 : (l0.length : Int) = (l1.length : Int)
 ·rw [if_pos c3] at H
  have c3b0 : ((l0.length : Int) == (l1.length : Int)) = true := beq_iff_eq.mpr c3
  have c3b1 : ((l0.length : Int) != (l1.length : Int)) = false := bne_eq_false_iff_eq.mpr c3
  have c3b2 : (l0.length == l1.length) = true := by first | simpa using c3 | (simp at c3 ⊢; omega)
  clear c3
  have H' := Aside0.mk H
  clear H
  go_enter Try.func28, Try.ntmps28
  go_wp2
  repeat (go_quiet (fail); try go_wp2)
  go_loopg [13] k (fun kq v13 w' => ∃ (x13_1 : Int), v13 = .int .i64 x13_1 ∧ Aside0 (slices_Equal_int32_int32.l0 kq l0 l1 (l0.length : Int) x13_1 = some r) ∧ Aside0 (kq ≤ k) ∧ Drawn0 w w')
  case atStart => exact ⟨(0), (by first | rfl | (simp; done) | (simp [*]; done)), H', ⟨Nat.le_refl _⟩, by repeat (first | exact Drawn0.refl _ | apply Drawn0.step)⟩
  case round =>
   clear H'
   try clear c1
   try clear c2
   try clear p2
   try clear c3
   try clear c3b0
   try clear c3e
   try clear c3b0d c3b0p
   try clear c3b0d
   try clear c3b1
   try clear c3b1d c3b1p
   try clear c3b1d
   try clear c3b2
   try clear c3b2d c3b2p
   try clear c3b2d
   obtain ⟨x13_1, rfl, HA, HK1, ⟨m1, rfl⟩⟩ := hrel
   cases gk with
   | zero => exact absurd HA.out (by simp [slices_Equal_int32_int32.l0])
   | succ k1 =>
    have H := HA.out
    clear HA
    simp only [slices_Equal_int32_int32.l0] at H
    by_cases c4 : x13_1 < (l0.length : Int)
    ·rw [if_pos c4] at H
     have c4b0 : decide (x13_1 < (l0.length : Int)) = true := decide_eq_true c4
     clear c4
     by_cases c5 : 0 ≤ x13_1
     ·rw [if_pos c5] at H
      have c5b0 : decide (0 ≤ x13_1) = true := decide_eq_true c5
      clear c5
      by_cases c6 : x13_1 < (l0.length : Int)
      ·rw [if_pos c6] at H
       have c6b0 : decide (x13_1 < (l0.length : Int)) = true := decide_eq_true c6
       clear c6
       by_cases c7 : x13_1 < (l1.length : Int)
       ·rw [if_pos c7] at H
        have c7b0 : decide (x13_1 < (l1.length : Int)) = true := decide_eq_true c7
        clear c7
        by_cases c8 : (rd l0 x13_1) = (rd l1 x13_1)
        ·rw [if_pos c8] at H
         have c8b0 : ((rd l0 x13_1) == (rd l1 x13_1)) = true := beq_iff_eq.mpr c8
         have c8b1 : ((rd l0 x13_1) != (rd l1 x13_1)) = false := bne_eq_false_iff_eq.mpr c8
         clear c8
         have H' := Aside0.mk H
         clear H
         have p224 : 0 ≤ (x13_1 : Int) := of_decide_eq_true (by first | (with_reducible assumption) | assumption)
         have q224 : x13_1 < (l0.length : Int) := of_decide_eq_true (by first | (with_reducible assumption) | assumption)
         obtain ⟨ad224, e224, hx224_0⟩ := Kd.at_int HR0.out x13_1 p224 q224
         cases e224
         replace p224 := eq_true p224
         replace q224 := eq_true q224
         have p225 : 0 ≤ (x13_1 : Int) := of_decide_eq_true (by first | (with_reducible assumption) | assumption)
         have q225 : x13_1 < (l1.length : Int) := of_decide_eq_true (by first | (with_reducible assumption) | assumption)
         obtain ⟨ad225, e225, hx225_0⟩ := Kd.at_int HR1.out x13_1 p225 q225
         cases e225
         replace p225 := eq_true p225
         replace q225 := eq_true q225
         go_wp2
         repeat (go_quiet (fail); try go_wp2)
         go_roundg k1
         case measure => have := HK1.out; omega
         case rel => exact ⟨(wrap64 (x13_1 + 1)), (by first | rfl | (simp; done) | (simp [*]; done)), H', ⟨by have := HK1.out; omega⟩, by repeat (first | exact Drawn0.refl _ | apply Drawn0.step)⟩
        ·rw [if_neg c8] at H
         have c8b0 : ((rd l0 x13_1) == (rd l1 x13_1)) = false := beq_eq_false_iff_ne.mpr c8
         have c8b1 : ((rd l0 x13_1) != (rd l1 x13_1)) = true := bne_iff_ne.mpr c8
         obtain rfl := Option.some.inj H
         have p224 : 0 ≤ (x13_1 : Int) := of_decide_eq_true (by first | (with_reducible assumption) | assumption)
         have q224 : x13_1 < (l0.length : Int) := of_decide_eq_true (by first | (with_reducible assumption) | assumption)
         obtain ⟨ad224, e224, hx224_0⟩ := Kd.at_int HR0.out x13_1 p224 q224
         cases e224
         replace p224 := eq_true p224
         replace q224 := eq_true q224
         have p225 : 0 ≤ (x13_1 : Int) := of_decide_eq_true (by first | (with_reducible assumption) | assumption)
         have q225 : x13_1 < (l1.length : Int) := of_decide_eq_true (by first | (with_reducible assumption) | assumption)
         obtain ⟨ad225, e225, hx225_0⟩ := Kd.at_int HR1.out x13_1 p225 q225
         cases e225
         replace p225 := eq_true p225
         replace q225 := eq_true q225
         go_wp2
         repeat (go_quiet (fail); try go_wp2)
         go_ret
         exact ⟨by first | rfl | (simp; done) | (simp [*]; done), by repeat (first | exact Drawn0.refl _ | apply Drawn0.step)⟩
       ·rw [if_neg c7] at H
        exact absurd H (by simp)
      ·rw [if_neg c6] at H
       exact absurd H (by simp)
     ·rw [if_neg c5] at H
      exact absurd H (by simp)
    ·rw [if_neg c4] at H
     have c4b0 : decide (x13_1 < (l0.length : Int)) = false := decide_eq_false c4
     clear c4
     obtain rfl := Option.some.inj H
     go_wp2
     repeat (go_quiet (fail); try go_wp2)
     go_ret
     exact ⟨by first | rfl | (simp; done) | (simp [*]; done), by repeat (first | exact Drawn0.refl _ | apply Drawn0.step)⟩
 ·rw [if_neg c3] at H
  have c3b0 : ((l0.length : Int) == (l1.length : Int)) = false := beq_eq_false_iff_ne.mpr c3
  have c3b1 : ((l0.length : Int) != (l1.length : Int)) = true := bne_iff_ne.mpr c3
  have c3b2 : (l0.length == l1.length) = false := by first | simpa using c3 | (simp at c3 ⊢; omega)
  obtain rfl := Option.some.inj H
  go_enter Try.func28, Try.ntmps28
  go_wp2
  repeat (go_quiet (fail); try go_wp2)
  go_ret
  exact ⟨by first | rfl | (simp; done) | (simp [*]; done), by repeat (first | exact Drawn0.refl _ | apply Drawn0.step)⟩
/-! ### api_Change_47: function 47 -/
def api_Change_47.l0 : Nat → List (S42) → List (S42) → Int → Int → Option (Bool)
 | 0, _, _, _, _ => none
 | k + 1, x0, x1, x12, x13 => if x13 < x12 then (if 0 ≤ x13 then (if x13 < (x0.length : Int) then (if x13 < (x1.length : Int) then (if (!(((rd_T42 x0 x13).f0) == ((rd_T42 x1 x13).f0)) || (!(((rd_T42 x0 x13).f1) == ((rd_T42 x1 x13).f1)) || ((!(((rd_T42 x0 x13).f2.f0) == ((rd_T42 x1 x13).f2.f0)) || (!(((rd_T42 x0 x13).f2.f1) == ((rd_T42 x1 x13).f2.f1)) || (!(((rd_T42 x0 x13).f2.f2) == ((rd_T42 x1 x13).f2.f2)) || (!((((rd_T42 x0 x13).f2.f3).toList) == (((rd_T42 x1 x13).f2.f3).toList))))))))) = true then (some false) else (api_Change_47.l0 k x0 x1 x12 (wrap64 (x13 + 1)))) else (none)) else (none)) else (none)) else (some true)
def api_Change_47.f (k : Nat) (l0 : List (S42)) (l1 : List (S42)) : Option (Bool) := if (l0.length : Int) = (l1.length : Int) then (api_Change_47.l0 k l0 l1 (l0.length : Int) 0) else (some false)
set_option maxHeartbeats 8000000 in
set_option maxRecDepth 100000 in
theorem api_Change_47.calls (k : Nat) (A0 : Option Addr) (c0 : Nat) (l0 : List (S42)) (A1 : Option Addr) (c1 : Nat) (l1 : List (S42)) (r : Bool) (w : World) (hr0 : Kd.C k42 w A0 l0.length l0) (hc0 : l0.length ≤ c0) (hr1 : Kd.C k42 w A1 l1.length l1) (hc1 : l1.length ≤ c1) (h : api_Change_47.f k l0 l1 = some r) :
  Calls Try.prog 47 #[.slice A0 l0.length c0, .slice A1 l1.length c1] w fun e w' => e = .returned (.bool r) ∧ Drawn0 w w' := by
 have hu42 := Try.underlying42
 have HR0 := Aside0.mk hr0
 have HC0 := Aside0.mk hc0
 clear hr0 hc0
 have HR1 := Aside0.mk hr1
 have HC1 := Aside0.mk hc1
 clear hr1 hc1
 have H : (if (l0.length : Int) = (l1.length : Int) then (api_Change_47.l0 k l0 l1 (l0.length : Int) 0) else (some false)) = some r := h
 clear h
 by_cases c3 : (l0.length : Int) = (l1.length : Int)
 ·rw [if_pos c3] at H
  have c3b0 : ((l0.length : Int) == (l1.length : Int)) = true := beq_iff_eq.mpr c3
  have c3b1 : ((l0.length : Int) != (l1.length : Int)) = false := bne_eq_false_iff_eq.mpr c3
  have c3b2 : (l0.length == l1.length) = true := by first | simpa using c3 | (simp at c3 ⊢; omega)
  clear c3
  have H' := Aside0.mk H
  clear H
  go_enter Try.func47, Try.ntmps47
  go_wp2
  repeat (go_quiet (fail); try go_wp2)
  go_loopg [13] k (fun kq v13 w' => ∃ (x13_1 : Int), v13 = .int .i64 x13_1 ∧ Aside0 (api_Change_47.l0 kq l0 l1 (l0.length : Int) x13_1 = some r) ∧ Aside0 (kq ≤ k) ∧ Drawn0 w w')
  case atStart => exact ⟨(0), (by first | rfl | (simp; done) | (simp [*]; done)), H', ⟨Nat.le_refl _⟩, by repeat (first | exact Drawn0.refl _ | apply Drawn0.step)⟩
  case round =>
   clear H'
   try clear c1
   try clear p2
   try clear c3
   try clear c3b0
   try clear c3e
   try clear c3b0d c3b0p
   try clear c3b0d
   try clear c3b1
   try clear c3b1d c3b1p
   try clear c3b1d
   try clear c3b2
   try clear c3b2d c3b2p
   try clear c3b2d
   obtain ⟨x13_1, rfl, HA, HK1, ⟨m1, rfl⟩⟩ := hrel
   cases gk with
   | zero => exact absurd HA.out (by simp [api_Change_47.l0])
   | succ k1 =>
    have H := HA.out
    clear HA
    simp only [api_Change_47.l0] at H
    by_cases c4 : x13_1 < (l0.length : Int)
    ·rw [if_pos c4] at H
     have c4b0 : decide (x13_1 < (l0.length : Int)) = true := decide_eq_true c4
     clear c4
     by_cases c5 : 0 ≤ x13_1
     ·rw [if_pos c5] at H
      have c5b0 : decide (0 ≤ x13_1) = true := decide_eq_true c5
      clear c5
      by_cases c6 : x13_1 < (l0.length : Int)
      ·rw [if_pos c6] at H
       have c6b0 : decide (x13_1 < (l0.length : Int)) = true := decide_eq_true c6
       clear c6
       by_cases c7 : x13_1 < (l1.length : Int)
       ·rw [if_pos c7] at H
        have c7b0 : decide (x13_1 < (l1.length : Int)) = true := decide_eq_true c7
        clear c7
        by_cases c8 : (!(((rd_T42 l0 x13_1).f0) == ((rd_T42 l1 x13_1).f0)) || (!(((rd_T42 l0 x13_1).f1) == ((rd_T42 l1 x13_1).f1)) || ((!(((rd_T42 l0 x13_1).f2.f0) == ((rd_T42 l1 x13_1).f2.f0)) || (!(((rd_T42 l0 x13_1).f2.f1) == ((rd_T42 l1 x13_1).f2.f1)) || (!(((rd_T42 l0 x13_1).f2.f2) == ((rd_T42 l1 x13_1).f2.f2)) || (!((((rd_T42 l0 x13_1).f2.f3).toList) == (((rd_T42 l1 x13_1).f2.f3).toList))))))))) = true
        ·rw [if_pos c8] at H
         have c8b0 : (!(((rd_T42 l0 x13_1).f0) == ((rd_T42 l1 x13_1).f0)) || (!(((rd_T42 l0 x13_1).f1) == ((rd_T42 l1 x13_1).f1)) || ((!(((rd_T42 l0 x13_1).f2.f0) == ((rd_T42 l1 x13_1).f2.f0)) || (!(((rd_T42 l0 x13_1).f2.f1) == ((rd_T42 l1 x13_1).f2.f1)) || (!(((rd_T42 l0 x13_1).f2.f2) == ((rd_T42 l1 x13_1).f2.f2)) || (!((((rd_T42 l0 x13_1).f2.f3).toList) == (((rd_T42 l1 x13_1).f2.f3).toList))))))))) = true := c8
         clear c8
         obtain rfl := Option.some.inj H
         have p230 : 0 ≤ (x13_1 : Int) := of_decide_eq_true (by first | (with_reducible assumption) | assumption)
         have q230 : x13_1 < (l0.length : Int) := of_decide_eq_true (by first | (with_reducible assumption) | assumption)
         obtain ⟨ad230, e230, hx230_0, hx230_1, hx230_2, hx230_3, hx230_4, hx230_5⟩ := at_T42 HR0.out x13_1 p230 q230
         cases e230
         replace p230 := eq_true p230
         replace q230 := eq_true q230
         have p231 : 0 ≤ (x13_1 : Int) := of_decide_eq_true (by first | (with_reducible assumption) | assumption)
         have q231 : x13_1 < (l1.length : Int) := of_decide_eq_true (by first | (with_reducible assumption) | assumption)
         obtain ⟨ad231, e231, hx231_0, hx231_1, hx231_2, hx231_3, hx231_4, hx231_5⟩ := at_T42 HR1.out x13_1 p231 q231
         cases e231
         replace p231 := eq_true p231
         replace q231 := eq_true q231
         go_wp2
         repeat (go_quiet (fail); try go_wp2)
         go_ret
         exact ⟨by first | rfl | (simp; done) | (simp [*]; done), by repeat (first | exact Drawn0.refl _ | apply Drawn0.step)⟩
        ·rw [if_neg c8] at H
         have c8b0 : (!(((rd_T42 l0 x13_1).f0) == ((rd_T42 l1 x13_1).f0)) || (!(((rd_T42 l0 x13_1).f1) == ((rd_T42 l1 x13_1).f1)) || ((!(((rd_T42 l0 x13_1).f2.f0) == ((rd_T42 l1 x13_1).f2.f0)) || (!(((rd_T42 l0 x13_1).f2.f1) == ((rd_T42 l1 x13_1).f2.f1)) || (!(((rd_T42 l0 x13_1).f2.f2) == ((rd_T42 l1 x13_1).f2.f2)) || (!((((rd_T42 l0 x13_1).f2.f3).toList) == (((rd_T42 l1 x13_1).f2.f3).toList))))))))) = false := by simpa using c8
         clear c8
         have H' := Aside0.mk H
         clear H
         have p230 : 0 ≤ (x13_1 : Int) := of_decide_eq_true (by first | (with_reducible assumption) | assumption)
         have q230 : x13_1 < (l0.length : Int) := of_decide_eq_true (by first | (with_reducible assumption) | assumption)
         obtain ⟨ad230, e230, hx230_0, hx230_1, hx230_2, hx230_3, hx230_4, hx230_5⟩ := at_T42 HR0.out x13_1 p230 q230
         cases e230
         replace p230 := eq_true p230
         replace q230 := eq_true q230
         have p231 : 0 ≤ (x13_1 : Int) := of_decide_eq_true (by first | (with_reducible assumption) | assumption)
         have q231 : x13_1 < (l1.length : Int) := of_decide_eq_true (by first | (with_reducible assumption) | assumption)
         obtain ⟨ad231, e231, hx231_0, hx231_1, hx231_2, hx231_3, hx231_4, hx231_5⟩ := at_T42 HR1.out x13_1 p231 q231
         cases e231
         replace p231 := eq_true p231
         replace q231 := eq_true q231
         go_wp2
         repeat (go_quiet (fail); try go_wp2)
         go_roundg k1
         case measure => have := HK1.out; omega
         case rel => exact ⟨(wrap64 (x13_1 + 1)), (by first | rfl | (simp; done) | (simp [*]; done)), H', ⟨by have := HK1.out; omega⟩, by repeat (first | exact Drawn0.refl _ | apply Drawn0.step)⟩
       ·rw [if_neg c7] at H
        exact absurd H (by simp)
      ·rw [if_neg c6] at H
       exact absurd H (by simp)
     ·rw [if_neg c5] at H
      exact absurd H (by simp)
    ·rw [if_neg c4] at H
     have c4b0 : decide (x13_1 < (l0.length : Int)) = false := decide_eq_false c4
     clear c4
     obtain rfl := Option.some.inj H
     go_wp2
     repeat (go_quiet (fail); try go_wp2)
     go_ret
     exact ⟨by first | rfl | (simp; done) | (simp [*]; done), by repeat (first | exact Drawn0.refl _ | apply Drawn0.step)⟩
 ·rw [if_neg c3] at H
  have c3b0 : ((l0.length : Int) == (l1.length : Int)) = false := beq_eq_false_iff_ne.mpr c3
  have c3b1 : ((l0.length : Int) != (l1.length : Int)) = true := bne_iff_ne.mpr c3
  have c3b2 : (l0.length == l1.length) = false := by first | simpa using c3 | (simp at c3 ⊢; omega)
  obtain rfl := Option.some.inj H
  go_enter Try.func47, Try.ntmps47
  go_wp2
  repeat (go_quiet (fail); try go_wp2)
  go_ret
  exact ⟨by first | rfl | (simp; done) | (simp [*]; done), by repeat (first | exact Drawn0.refl _ | apply Drawn0.step)⟩
/-! ### patch_Same: function 30 -/
def patch_Same.f (k : Nat) (l0 : List (S42)) (l1 : List (S42)) : Option (Bool) := (api_Change_47.f k l0 l1).bind fun t232 => (some t232)
set_option maxHeartbeats 8000000 in
set_option maxRecDepth 100000 in
theorem patch_Same.calls (k : Nat) (A0 : Option Addr) (c0 : Nat) (l0 : List (S42)) (A1 : Option Addr) (c1 : Nat) (l1 : List (S42)) (r : Bool) (w : World) (hr0 : Kd.C k42 w A0 l0.length l0) (hc0 : l0.length ≤ c0) (hr1 : Kd.C k42 w A1 l1.length l1) (hc1 : l1.length ≤ c1) (h : patch_Same.f k l0 l1 = some r) :
  Calls Try.prog 30 #[.slice A0 l0.length c0, .slice A1 l1.length c1] w fun e w' => e = .returned (.bool r) ∧ Drawn0 w w' := by
 have HR0 := Aside0.mk hr0
 have HC0 := Aside0.mk hc0
 clear hr0 hc0
 have HR1 := Aside0.mk hr1
 have HC1 := Aside0.mk hc1
 clear hr1 hc1
 have H : ((api_Change_47.f k l0 l1).bind fun t232 => (some t232)) = some r := h
 clear h
 replace H := Option.bind_eq_some_iff.mp H
 obtain ⟨t232, A30, H⟩ := H
 replace H : (some t232) = some r := H
 have A3 := Aside0.mk A30
 clear A30
 obtain rfl := Option.some.inj H
 go_enter Try.func30, Try.ntmps30
 go_wp2_with (first | ((with_reducible refine gate_callee (f := 47) rfl ?_); refine goesL_ (some 7) rfl rfl Try.func47 (by kernel_rfl) rfl #[.slice A0 l0.length c0, .slice A1 l1.length c1] rfl (by (try simp only [List.map_toArray, List.map_cons, List.map_nil]); first | done | rfl | (simp only [List.length_drop, List.length_take]; rfl)) ?_; (with_reducible refine (api_Change_47.calls k _ _ l0 _ _ l1 t232 _ ?side1 ?side2 ?side3 ?side4 A3.out).mono ?_); (case side1 => repeat (first | exact HR0.out | (with_reducible refine Kd.C_alloc ?_ _) | (with_reducible refine Kd.C_drewN ?_ _) | (with_reducible refine Kd.C_drew ?_))); (case side2 => exact HC0.out); (case side3 => repeat (first | exact HR1.out | (with_reducible refine Kd.C_alloc ?_ _) | (with_reducible refine Kd.C_drewN ?_ _) | (with_reducible refine Kd.C_drew ?_))); (case side4 => exact HC1.out); rintro e w' ⟨rfl, ⟨nd, rfl⟩⟩; refine ⟨_, rfl, ?_⟩))
 go_ret
 exact ⟨by first | rfl | (simp; done) | (simp [*]; done), by repeat (first | exact Drawn0.refl _ | apply Drawn0.step)⟩
/-! ### api_Op_48: function 48 -/
def api_Op_48.f (l0 : List (S30)) : Option ((List (S30))) := (some (([] : List (S30)) : List (S30))).bind fun y233 => (if y233.length + l0.length < 1599289640401 then (some (y233 ++ l0)) else (none))
set_option maxHeartbeats 8000000 in
set_option maxRecDepth 100000 in
theorem api_Op_48.calls (P0_ : Nat → Prop) (A0 : Option Addr) (c0 : Nat) (l0 : List (S30)) (r : List (S30)) (w : World) (hs0 : Kd.V k30 30 w w.heap.size (fun k_ => P0_ k_) (.slice A0 l0.length c0) l0) (h : api_Op_48.f l0 = some r) :
  Calls Try.prog 48 #[.slice A0 l0.length c0] w fun e w' => ∃ v0_ : Value, e = .returned (v0_) ∧ Kd.N k30 30 w' w.heap.size (fun k_ => (P0_ k_ ∨ w.heap.size ≤ k_)) v0_ r ∧ Below w.heap.size w w' := by
 rcases A0 with _ | ad0
 ·have hl0 : l0 = [] := by
   obtain ⟨hl_, _, ha_⟩ := (Kd.V_reads' hs0).2.2
   rcases Nat.eq_zero_or_pos l0.length with hz | hz
   ·exact List.eq_nil_of_length_eq_zero hz
   ·obtain ⟨ad_, hx_, _⟩ := ha_ hz
    cases hx_
  subst hl0
  have hr : r = [] := by
   unfold api_Op_48.f at h
   simp only [Option.bind_some, List.append_nil] at h
   split at h
   ·exact (Option.some.inj h).symm
   ·cases h
  subst hr
  have heq := fun (W : World) (q c : Nat) => Lib.run_eql_slice_nil (P := Try.prog) W 23 30 none q c 0 0 Try.underlying23
  clear h hs0
  go_enter Try.func48, Try.ntmps48
  go_wp2
  go_ret
  exact ⟨_, rfl, by first | exact Kd.R_nil _ _ _ _ _ | exact Kd.N_nil _ _ _ _ _ | exact Kd.V_nil _ _ _ _ _ | exact Kd.Q_nil _ _ _ _ _ | exact Kd.S_nil _ _ _ _ _, by repeat (first | exact Below.refl _ _ | apply below_alloc | apply pw_below_drewN | apply below_drew1)⟩
 ·have heq := fun (W : World) (q c : Nat) => Lib.run_eql_slice_nil (P := Try.prog) W 23 30 (some ad0) q c 0 0 Try.underlying23
  have HO0 := Aside0.mk (show Kd.V k30 30 w w.heap.size (fun k_ => (P0_ k_ ∨ w.heap.size ≤ k_)) (.slice (some ad0) l0.length c0) l0 from Kd.V_mono hs0 (fun k_ hk => .inl hk))
  have HB := Aside0.mk (Below.refl w.heap.size w)
  have H : ((some (([] : List (S30)) : List (S30))).bind fun y233 => (if y233.length + l0.length < 1599289640401 then (some (y233 ++ l0)) else (none))) = some r := h
  clear h
  obtain ⟨y233, hy233⟩ : ∃ y_ : List (S30), y_ = (([] : List (S30))) := ⟨_, rfl⟩
  replace H : (if y233.length + l0.length < 1599289640401 then (some (y233 ++ l0)) else (none)) = some r := by first | (rw [hy233]; with_reducible exact H) | (have H2_ := (Option.bind_some _ _).symm.trans H; rw [hy233]; with_reducible exact H2_) | (have H2_ := (Option.bind_some _ _).symm.trans H; with_reducible exact H2_) | with_reducible exact H | (rw [hy233]; exact H) | exact H
  have Ny233 := Aside0.mk hy233
  clear hy233
  by_cases c2 : y233.length + l0.length < 1599289640401
  ·rw [if_pos c2] at H
   have LMc2 := Aside0.mk c2
   clear c2
   obtain ⟨y236, hy236⟩ : ∃ y_ : List (S30), y_ = (y233 ++ l0) := ⟨_, rfl⟩
   replace H : (some y236) = some r := by first | (rw [hy236]; with_reducible exact H) | (have H2_ := (Option.bind_some _ _).symm.trans H; rw [hy236]; with_reducible exact H2_) | (have H2_ := (Option.bind_some _ _).symm.trans H; with_reducible exact H2_) | with_reducible exact H | (rw [hy236]; exact H) | exact H
   have Ny236 := Aside0.mk hy236
   clear hy236
   obtain rfl := Option.some.inj H
   go_enter Try.func48, Try.ntmps48
   go_wp2_with (first | ((with_reducible refine gate_dst (N := 5) rfl ?_); refine Kd.N_lit k30 _ 30 ?hg (N' := 5) ?hd (xs := ([] : List (S30))) (inner := []) (ok := (fun k_ => (P0_ k_ ∨ w.heap.size ≤ k_))) (okp := (fun k_ => (P0_ k_ ∨ w.heap.size ≤ k_))) ?hr ?hp (fun _ hk => hk) ((show ∀ k_, w.heap.size ≤ k_ → (fun k_ => (P0_ k_ ∨ w.heap.size ≤ k_)) k_ from fun k_ hk => (.inr (Nat.le_trans (below_size (by repeat (first | (with_reducible first | exact HB.out | apply below_alloc | apply pw_below_drewN | apply below_drew1) | exact HB.out | exact Below.refl _ _))) hk))) _ (Nat.le_refl _)) (Below.refl _ _) (Nat.le_refl _) (by simp) ?_; (case hd => rfl); (case hg => rfl); (case hr => first | (go_simp; done) | (go_simp; rfl)); (case hp => exact (Reps.none _ _)); intro v234 w3 ho4 hb hg_ hnew_; clear hg_ hnew_; (first | rw [← Ny233.out] at ho4 | (simp only [Int.reduceToNat] at ho4; rw [← Ny233.out] at ho4)); have n0_ := Aside0.mk (Kd.V_elder' (by (with_reducible repeat (first | apply Kd.V_alloc | apply Kd.V_drewN | apply Kd.V_drew)); exact HO0.out) (Kd.N_base ho4) hb); have n1_ := Aside0.mk (Kd.N_lower ho4 (below_size (by repeat (first | (with_reducible first | exact HB.out | apply below_alloc | apply pw_below_drewN | apply below_drew1) | exact HB.out | exact Below.refl _ _)))); have n2_ := Aside0.mk (below_step (by repeat (first | (with_reducible first | exact HB.out | apply below_alloc | apply pw_below_drewN | apply below_drew1) | exact HB.out | exact Below.refl _ _)) hb); clear HO0; clear HB; have HO0 := n0_; have HO235 := n1_; have HB := n2_; clear n0_ n1_ n2_; clear hb ho4) | ((with_reducible refine gate_builtin (b := .append) (xs := #[.tmp 5, .tmp 6]) rfl ?_); at_builtin; refine Kd.N_append_rows k30 (w0 := w) w.heap.size rfl (.tmp 5) (.tmp 6) 23 30 (.agg #[(.int .u8 0), (.int .i64 0), (.slice none 0 0), (.slice none 0 0), (.slice none 0 0)]) 88 rfl Try.underlying23 info30 rfl (by decide) (by omega) v234 y233 l0 _ _ _ (fun k_ => (P0_ k_ ∨ w.heap.size ≤ k_)) (fun k_ => ((fun k_ => (P0_ k_ ∨ w.heap.size ≤ k_))) k_ ∧ some k_ ≠ (v234 : Value).ownBlock) rfl rfl ?aO ?aR (fun _ hk => hk) ?aF ?aB ?aS ?aL ?_; (case aR => exact (by skip; exact Kd.V_F (Kd.V_mono (ok' := (fun k_ => ((fun k_ => (P0_ k_ ∨ w.heap.size ≤ k_))) k_ ∧ some k_ ≠ (v234 : Value).ownBlock)) (HO0.out) (fun k_ hk => ⟨hk.1, hk.2⟩)))); (case aB => exact (by repeat (first | (with_reducible first | exact HB.out | apply below_alloc | apply pw_below_drewN | apply below_drew1) | exact HB.out | exact Below.refl _ _))); (case aF => exact (fun k_ hk => (.inr (Nat.le_trans (below_size (by repeat (first | (with_reducible first | exact HB.out | apply below_alloc | apply pw_below_drewN | apply below_drew1) | exact HB.out | exact Below.refl _ _))) hk)))); (case aO => exact (by (with_reducible repeat (first | apply Kd.N_alloc | apply Kd.N_drewN | apply Kd.N_drew)); exact HO235.out)); (case aS => exact (below_size (by repeat (first | (with_reducible first | exact HB.out | apply below_alloc | apply pw_below_drewN | apply below_drew1) | exact HB.out | exact Below.refl _ _)))); (case aL => have := LMc2.out; omega); intro v237 w5 ho hb hg hat; rw [← Ny236.out] at ho; have n0_ := Aside0.mk (Kd.V_afterv (ok := (fun k_ => (P0_ k_ ∨ w.heap.size ≤ k_))) (by (with_reducible repeat (first | apply Kd.V_alloc | apply Kd.V_drewN | apply Kd.V_drew)); exact HO0.out) hg hat); have n1_ := Aside0.mk (hb); have n2_ := Aside0.mk (ho); clear HO0; clear HB; clear HO235; have HO0 := n0_; have HB := n1_; have HO238 := n2_; clear n0_ n1_ n2_; clear ho hb hg hat))
   go_ret
   exact ⟨_, by first | rfl | (simp [errW_none, errW_some] <;> rfl) | (simp [*, errW_none, errW_some] <;> rfl), by (with_reducible repeat (first | apply Kd.N_alloc | apply Kd.N_drewN | apply Kd.N_drew)); exact HO238.out, by repeat (first | (with_reducible first | exact HB.out | apply below_alloc | apply pw_below_drewN | apply below_drew1) | exact HB.out | exact Below.refl _ _)⟩
  ·rw [if_neg c2] at H
   exact absurd H (by simp)
/-! ### api_Change_49: function 49 -/
def api_Change_49.f (l0 : List (S42)) : Option ((List (S42))) := (some (([] : List (S42)) : List (S42))).bind fun y245 => (if y245.length + l0.length < 2513169434916 then (some (y245 ++ l0)) else (none))
set_option maxHeartbeats 8000000 in
set_option maxRecDepth 100000 in
theorem api_Change_49.calls (A0 : Option Addr) (c0 : Nat) (l0 : List (S42)) (r : List (S42)) (w : World) (hr0 : Kd.C k42 w A0 l0.length l0) (hc0 : l0.length ≤ c0) (h : api_Change_49.f l0 = some r) :
  Calls Try.prog 49 #[.slice A0 l0.length c0] w fun e w' => ∃ v0_ : Value, e = .returned (v0_) ∧ Kd.R k42 42 w' w.heap.size (fun _ => True) v0_ r ∧ Below w.heap.size w w' := by
 rcases A0 with _ | ad0
 ·have hl0 : l0 = [] := by
   obtain ⟨hl_, _, ha_⟩ := hr0
   rcases Nat.eq_zero_or_pos l0.length with hz | hz
   ·exact List.eq_nil_of_length_eq_zero hz
   ·obtain ⟨ad_, hx_, _⟩ := ha_ hz
    cases hx_
  subst hl0
  have hr : r = [] := by
   unfold api_Change_49.f at h
   simp only [Option.bind_some, List.append_nil] at h
   split at h
   ·exact (Option.some.inj h).symm
   ·cases h
  subst hr
  have heq := fun (W : World) (q c : Nat) => Lib.run_eql_slice_nil (P := Try.prog) W 28 42 none q c 0 0 Try.underlying28
  clear h hr0
  go_enter Try.func49, Try.ntmps49
  go_wp2
  go_ret
  exact ⟨_, rfl, by first | exact Kd.R_nil _ _ _ _ _ | exact Kd.N_nil _ _ _ _ _ | exact Kd.V_nil _ _ _ _ _ | exact Kd.Q_nil _ _ _ _ _ | exact Kd.S_nil _ _ _ _ _, by repeat (first | exact Below.refl _ _ | apply below_alloc | apply pw_below_drewN | apply below_drew1)⟩
 ·have heq := fun (W : World) (q c : Nat) => Lib.run_eql_slice_nil (P := Try.prog) W 28 42 (some ad0) q c 0 0 Try.underlying28
  have HR0 := Aside0.mk hr0
  have HC0 := Aside0.mk hc0
  clear hr0 hc0
  have HB := Aside0.mk (Below.refl w.heap.size w)
  have H : ((some (([] : List (S42)) : List (S42))).bind fun y245 => (if y245.length + l0.length < 2513169434916 then (some (y245 ++ l0)) else (none))) = some r := h
  clear h
  obtain ⟨y245, hy245⟩ : ∃ y_ : List (S42), y_ = (([] : List (S42))) := ⟨_, rfl⟩
  replace H : (if y245.length + l0.length < 2513169434916 then (some (y245 ++ l0)) else (none)) = some r := by first | (rw [hy245]; with_reducible exact H) | (have H2_ := (Option.bind_some _ _).symm.trans H; rw [hy245]; with_reducible exact H2_) | (have H2_ := (Option.bind_some _ _).symm.trans H; with_reducible exact H2_) | with_reducible exact H | (rw [hy245]; exact H) | exact H
  have Ny245 := Aside0.mk hy245
  clear hy245
  by_cases c2 : y245.length + l0.length < 2513169434916
  ·rw [if_pos c2] at H
   have LMc2 := Aside0.mk c2
   clear c2
   obtain ⟨y248, hy248⟩ : ∃ y_ : List (S42), y_ = (y245 ++ l0) := ⟨_, rfl⟩
   replace H : (some y248) = some r := by first | (rw [hy248]; with_reducible exact H) | (have H2_ := (Option.bind_some _ _).symm.trans H; rw [hy248]; with_reducible exact H2_) | (have H2_ := (Option.bind_some _ _).symm.trans H; with_reducible exact H2_) | with_reducible exact H | (rw [hy248]; exact H) | exact H
   have Ny248 := Aside0.mk hy248
   clear hy248
   obtain rfl := Option.some.inj H
   go_enter Try.func49, Try.ntmps49
   go_wp2_with (first | ((with_reducible refine gate_dst (N := 5) rfl ?_); refine Kd.R_lit k42 _ 42 ?hg (N := 5) ?hd (xs := ([] : List (S42))) (inner := []) (ok := fun _ => True) (okp := fun _ => True) ?hr ?hp (fun _ hk => hk) trivial (Below.refl _ _) (Nat.le_refl _) (by simp) ?_; (case hd => rfl); (case hg => rfl); (case hr => first | (go_simp; done) | (go_simp; rfl)); (case hp => exact (Reps.none _ _)); intro v246 w3 ho4 hb hg_ hnew_; clear hg_ hnew_; (first | rw [← Ny245.out] at ho4 | (simp only [Int.reduceToNat] at ho4; rw [← Ny245.out] at ho4)); have n0_ := Aside0.mk (Kd.R_lower ho4 (below_size (by repeat (first | (with_reducible first | exact HB.out | apply below_alloc | apply pw_below_drewN | apply below_drew1) | exact HB.out | exact Below.refl _ _)))); have n1_ := Aside0.mk (below_step (by repeat (first | (with_reducible first | exact HB.out | apply below_alloc | apply pw_below_drewN | apply below_drew1) | exact HB.out | exact Below.refl _ _)) hb); clear HB; have HO247 := n0_; have HB := n1_; clear n0_ n1_; clear hb ho4) | ((with_reducible refine gate_builtin (b := .append) (xs := #[.tmp 5, .tmp 6]) rfl ?_); at_builtin; refine Kd.R_append_rows k42 (w0 := w) w.heap.size rfl (.tmp 5) (.tmp 6) 28 42 (.agg #[(.int .i64 0), (.bool false), (.int .u8 0), (.int .i64 0), (.int .u64 0), (.string ⟨#[]⟩)]) 56 rfl Try.underlying28 info42 rfl (by decide) (by omega) v246 y245 l0 _ _ _ (fun _ => True) (fun _ => False) rfl rfl ?aO ?aR (fun _ _ h => h) (fun _ h => h.elim) ?aF ?aB ?aS ?aL ?_; (case aR => repeat (first | exact (Kd.C_below HR0.out HB.out) | (with_reducible refine Kd.C_alloc ?_ _) | (with_reducible refine Kd.C_drewN ?_ _) | (with_reducible refine Kd.C_drew ?_))); (case aB => exact (by repeat (first | (with_reducible first | exact HB.out | apply below_alloc | apply pw_below_drewN | apply below_drew1) | exact HB.out | exact Below.refl _ _))); (case aF => exact (fun _ _ => trivial)); (case aO => exact (by (with_reducible repeat (first | apply Kd.R_alloc | apply Kd.R_drewN | apply Kd.R_drew)); exact HO247.out)); (case aS => exact (below_size (by repeat (first | (with_reducible first | exact HB.out | apply below_alloc | apply pw_below_drewN | apply below_drew1) | exact HB.out | exact Below.refl _ _)))); (case aL => have := LMc2.out; omega); intro v249 w5 ho hb hg hat; rw [← Ny248.out] at ho; have n0_ := Aside0.mk (hb); have n1_ := Aside0.mk (ho); clear HB; clear HO247; have HB := n0_; have HO250 := n1_; clear n0_ n1_; clear ho hb hg hat))
   go_ret
   exact ⟨_, by first | rfl | (simp [errW_none, errW_some] <;> rfl) | (simp [*, errW_none, errW_some] <;> rfl), by (with_reducible repeat (first | apply Kd.R_alloc | apply Kd.R_drewN | apply Kd.R_drew)); exact HO250.out, by repeat (first | (with_reducible first | exact HB.out | apply below_alloc | apply pw_below_drewN | apply below_drew1) | exact HB.out | exact Below.refl _ _)⟩
  ·rw [if_neg c2] at H
   exact absurd H (by simp)
/-! ### patch_Copy: function 36 -/
def patch_Copy.f (l0 : List (S42)) : Option ((List (S42))) := (api_Change_49.f l0).bind fun t251 => (some t251)
set_option maxHeartbeats 8000000 in
set_option maxRecDepth 100000 in
theorem patch_Copy.calls (A0 : Option Addr) (c0 : Nat) (l0 : List (S42)) (r : List (S42)) (w : World) (hr0 : Kd.C k42 w A0 l0.length l0) (hc0 : l0.length ≤ c0) (h : patch_Copy.f l0 = some r) :
  Calls Try.prog 36 #[.slice A0 l0.length c0] w fun e w' => ∃ v0_ : Value, e = .returned (v0_) ∧ Kd.R k42 42 w' w.heap.size (fun _ => True) v0_ r ∧ Below w.heap.size w w' := by
 have HR0 := Aside0.mk hr0
 have HC0 := Aside0.mk hc0
 clear hr0 hc0
 have HB := Aside0.mk (Below.refl w.heap.size w)
 have H : ((api_Change_49.f l0).bind fun t251 => (some t251)) = some r := h
 clear h
 replace H := Option.bind_eq_some_iff.mp H
 obtain ⟨t251, A20, H⟩ := H
 replace H : (some t251) = some r := H
 have A2 := Aside0.mk A20
 clear A20
 obtain rfl := Option.some.inj H
 go_enter Try.func36, Try.ntmps36
 go_wp2_with (first | ((with_reducible refine gate_callee (f := 49) rfl ?_); refine goesL_ (some 4) rfl rfl Try.func49 (by kernel_rfl) rfl #[.slice A0 l0.length c0] rfl (by (try simp only [List.map_toArray, List.map_cons, List.map_nil]); first | done | rfl | (simp only [List.length_drop, List.length_take]; rfl)) ?_; (with_reducible refine (api_Change_49.calls _ _ l0 t251 _ ?side1 ?side2 A2.out).mono ?_); (case side1 => repeat (first | exact HR0.out | (with_reducible refine Kd.C_alloc ?_ _) | (with_reducible refine Kd.C_drewN ?_ _) | (with_reducible refine Kd.C_drew ?_))); (case side2 => exact HC0.out); rintro e w3 ⟨v252, rfl, ho0, hb⟩; refine ⟨_, rfl, ?_⟩; have n0_ := Aside0.mk (Kd.R_lower ho0 (below_size (by repeat (first | (with_reducible first | exact HB.out | apply below_alloc | apply pw_below_drewN | apply below_drew1) | exact HB.out | exact Below.refl _ _)))); have n1_ := Aside0.mk (below_step (by repeat (first | (with_reducible first | exact HB.out | apply below_alloc | apply pw_below_drewN | apply below_drew1) | exact HB.out | exact Below.refl _ _)) hb); clear HB; have HO253 := n0_; have HB := n1_; clear n0_ n1_; (try clear hb); (try clear hb2); (try clear hk); (try clear hi); (try clear ho0)))
 go_ret
 exact ⟨_, by first | rfl | (simp [errW_none, errW_some] <;> rfl) | (simp [*, errW_none, errW_some] <;> rfl), by (with_reducible repeat (first | apply Kd.R_alloc | apply Kd.R_drewN | apply Kd.R_drew)); exact HO253.out, by repeat (first | (with_reducible first | exact HB.out | apply below_alloc | apply pw_below_drewN | apply below_drew1) | exact HB.out | exact Below.refl _ _)⟩
/-! ### api_Attr_46: function 46 -/
def api_Attr_46.l0 : Nat → List (S40) → List (S40) → Int → Int → Option (Bool)
 | 0, _, _, _, _ => none
 | k + 1, x0, x1, x12, x13 => if x13 < x12 then (if 0 ≤ x13 then (if x13 < (x0.length : Int) then (if x13 < (x1.length : Int) then (if (!(((rd_T40 x0 x13).f0) == ((rd_T40 x1 x13).f0)) || ((!(((rd_T40 x0 x13).f1.f0) == ((rd_T40 x1 x13).f1.f0)) || (!(((rd_T40 x0 x13).f1.f1) == ((rd_T40 x1 x13).f1.f1)) || (!(((rd_T40 x0 x13).f1.f2) == ((rd_T40 x1 x13).f1.f2)) || (!((((rd_T40 x0 x13).f1.f3).toList) == (((rd_T40 x1 x13).f1.f3).toList)))))))) = true then (some false) else (api_Attr_46.l0 k x0 x1 x12 (wrap64 (x13 + 1)))) else (none)) else (none)) else (none)) else (some true)
def api_Attr_46.f (k : Nat) (l0 : List (S40)) (l1 : List (S40)) : Option (Bool) := if (l0.length : Int) = (l1.length : Int) then (api_Attr_46.l0 k l0 l1 (l0.length : Int) 0) else (some false)
set_option maxHeartbeats 8000000 in
set_option maxRecDepth 100000 in
theorem api_Attr_46.calls (k : Nat) (A0 : Option Addr) (c0 : Nat) (l0 : List (S40)) (A1 : Option Addr) (c1 : Nat) (l1 : List (S40)) (r : Bool) (w : World) (hr0 : Kd.C k40 w A0 l0.length l0) (hc0 : l0.length ≤ c0) (hr1 : Kd.C k40 w A1 l1.length l1) (hc1 : l1.length ≤ c1) (h : api_Attr_46.f k l0 l1 = some r) :
  Calls Try.prog 46 #[.slice A0 l0.length c0, .slice A1 l1.length c1] w fun e w' => e = .returned (.bool r) ∧ Drawn0 w w' := by
 have hu40 := Try.underlying40
 have HR0 := Aside0.mk hr0
 have HC0 := Aside0.mk hc0
 clear hr0 hc0
 have HR1 := Aside0.mk hr1
 have HC1 := Aside0.mk hc1
 clear hr1 hc1
 have H : (if (l0.length : Int) = (l1.length : Int) then (api_Attr_46.l0 k l0 l1 (l0.length : Int) 0) else (some false)) = some r := h
 clear h
 by_cases c3 : (l0.length : Int) = (l1.length : Int)
 ·rw [if_pos c3] at H
  have c3b0 : ((l0.length : Int) == (l1.length : Int)) = true := beq_iff_eq.mpr c3
  have c3b1 : ((l0.length : Int) != (l1.length : Int)) = false := bne_eq_false_iff_eq.mpr c3
  have c3b2 : (l0.length == l1.length) = true := by first | simpa using c3 | (simp at c3 ⊢; omega)
  clear c3
  have H' := Aside0.mk H
  clear H
  go_enter Try.func46, Try.ntmps46
  go_wp2
  repeat (go_quiet (fail); try go_wp2)
  go_loopg [13] k (fun kq v13 w' => ∃ (x13_1 : Int), v13 = .int .i64 x13_1 ∧ Aside0 (api_Attr_46.l0 kq l0 l1 (l0.length : Int) x13_1 = some r) ∧ Aside0 (kq ≤ k) ∧ Drawn0 w w')
  case atStart => exact ⟨(0), (by first | rfl | (simp; done) | (simp [*]; done)), H', ⟨Nat.le_refl _⟩, by repeat (first | exact Drawn0.refl _ | apply Drawn0.step)⟩
  case round =>
   clear H'
   try clear c1
   try clear p2
   try clear c3
   try clear c3b0
   try clear c3e
   try clear c3b0d c3b0p
   try clear c3b0d
   try clear c3b1
   try clear c3b1d c3b1p
   try clear c3b1d
   try clear c3b2
   try clear c3b2d c3b2p
   try clear c3b2d
   obtain ⟨x13_1, rfl, HA, HK1, ⟨m1, rfl⟩⟩ := hrel
   cases gk with
   | zero => exact absurd HA.out (by simp [api_Attr_46.l0])
   | succ k1 =>
    have H := HA.out
    clear HA
    simp only [api_Attr_46.l0] at H
    by_cases c4 : x13_1 < (l0.length : Int)
    ·rw [if_pos c4] at H
     have c4b0 : decide (x13_1 < (l0.length : Int)) = true := decide_eq_true c4
     clear c4
     by_cases c5 : 0 ≤ x13_1
     ·rw [if_pos c5] at H
      have c5b0 : decide (0 ≤ x13_1) = true := decide_eq_true c5
      clear c5
      by_cases c6 : x13_1 < (l0.length : Int)
      ·rw [if_pos c6] at H
       have c6b0 : decide (x13_1 < (l0.length : Int)) = true := decide_eq_true c6
       clear c6
       by_cases c7 : x13_1 < (l1.length : Int)
       ·rw [if_pos c7] at H
        have c7b0 : decide (x13_1 < (l1.length : Int)) = true := decide_eq_true c7
        clear c7
        by_cases c8 : (!(((rd_T40 l0 x13_1).f0) == ((rd_T40 l1 x13_1).f0)) || ((!(((rd_T40 l0 x13_1).f1.f0) == ((rd_T40 l1 x13_1).f1.f0)) || (!(((rd_T40 l0 x13_1).f1.f1) == ((rd_T40 l1 x13_1).f1.f1)) || (!(((rd_T40 l0 x13_1).f1.f2) == ((rd_T40 l1 x13_1).f1.f2)) || (!((((rd_T40 l0 x13_1).f1.f3).toList) == (((rd_T40 l1 x13_1).f1.f3).toList)))))))) = true
        ·rw [if_pos c8] at H
         have c8b0 : (!(((rd_T40 l0 x13_1).f0) == ((rd_T40 l1 x13_1).f0)) || ((!(((rd_T40 l0 x13_1).f1.f0) == ((rd_T40 l1 x13_1).f1.f0)) || (!(((rd_T40 l0 x13_1).f1.f1) == ((rd_T40 l1 x13_1).f1.f1)) || (!(((rd_T40 l0 x13_1).f1.f2) == ((rd_T40 l1 x13_1).f1.f2)) || (!((((rd_T40 l0 x13_1).f1.f3).toList) == (((rd_T40 l1 x13_1).f1.f3).toList)))))))) = true := c8
         clear c8
         obtain rfl := Option.some.inj H
         have p254 : 0 ≤ (x13_1 : Int) := of_decide_eq_true (by first | (with_reducible assumption) | assumption)
         have q254 : x13_1 < (l0.length : Int) := of_decide_eq_true (by first | (with_reducible assumption) | assumption)
         obtain ⟨ad254, e254, hx254_0, hx254_1, hx254_2, hx254_3, hx254_4⟩ := at_T40 HR0.out x13_1 p254 q254
         cases e254
         replace p254 := eq_true p254
         replace q254 := eq_true q254
         have p255 : 0 ≤ (x13_1 : Int) := of_decide_eq_true (by first | (with_reducible assumption) | assumption)
         have q255 : x13_1 < (l1.length : Int) := of_decide_eq_true (by first | (with_reducible assumption) | assumption)
         obtain ⟨ad255, e255, hx255_0, hx255_1, hx255_2, hx255_3, hx255_4⟩ := at_T40 HR1.out x13_1 p255 q255
         cases e255
         replace p255 := eq_true p255
         replace q255 := eq_true q255
         go_wp2
         repeat (go_quiet (fail); try go_wp2)
         go_ret
         exact ⟨by first | rfl | (simp; done) | (simp [*]; done), by repeat (first | exact Drawn0.refl _ | apply Drawn0.step)⟩
        ·rw [if_neg c8] at H
         have c8b0 : (!(((rd_T40 l0 x13_1).f0) == ((rd_T40 l1 x13_1).f0)) || ((!(((rd_T40 l0 x13_1).f1.f0) == ((rd_T40 l1 x13_1).f1.f0)) || (!(((rd_T40 l0 x13_1).f1.f1) == ((rd_T40 l1 x13_1).f1.f1)) || (!(((rd_T40 l0 x13_1).f1.f2) == ((rd_T40 l1 x13_1).f1.f2)) || (!((((rd_T40 l0 x13_1).f1.f3).toList) == (((rd_T40 l1 x13_1).f1.f3).toList)))))))) = false := by simpa using c8
         clear c8
         have H' := Aside0.mk H
         clear H
         have p254 : 0 ≤ (x13_1 : Int) := of_decide_eq_true (by first | (with_reducible assumption) | assumption)
         have q254 : x13_1 < (l0.length : Int) := of_decide_eq_true (by first | (with_reducible assumption) | assumption)
         obtain ⟨ad254, e254, hx254_0, hx254_1, hx254_2, hx254_3, hx254_4⟩ := at_T40 HR0.out x13_1 p254 q254
         cases e254
         replace p254 := eq_true p254
         replace q254 := eq_true q254
         have p255 : 0 ≤ (x13_1 : Int) := of_decide_eq_true (by first | (with_reducible assumption) | assumption)
         have q255 : x13_1 < (l1.length : Int) := of_decide_eq_true (by first | (with_reducible assumption) | assumption)
         obtain ⟨ad255, e255, hx255_0, hx255_1, hx255_2, hx255_3, hx255_4⟩ := at_T40 HR1.out x13_1 p255 q255
         cases e255
         replace p255 := eq_true p255
         replace q255 := eq_true q255
         go_wp2
         repeat (go_quiet (fail); try go_wp2)
         go_roundg k1
         case measure => have := HK1.out; omega
         case rel => exact ⟨(wrap64 (x13_1 + 1)), (by first | rfl | (simp; done) | (simp [*]; done)), H', ⟨by have := HK1.out; omega⟩, by repeat (first | exact Drawn0.refl _ | apply Drawn0.step)⟩
       ·rw [if_neg c7] at H
        exact absurd H (by simp)
      ·rw [if_neg c6] at H
       exact absurd H (by simp)
     ·rw [if_neg c5] at H
      exact absurd H (by simp)
    ·rw [if_neg c4] at H
     have c4b0 : decide (x13_1 < (l0.length : Int)) = false := decide_eq_false c4
     clear c4
     obtain rfl := Option.some.inj H
     go_wp2
     repeat (go_quiet (fail); try go_wp2)
     go_ret
     exact ⟨by first | rfl | (simp; done) | (simp [*]; done), by repeat (first | exact Drawn0.refl _ | apply Drawn0.step)⟩
 ·rw [if_neg c3] at H
  have c3b0 : ((l0.length : Int) == (l1.length : Int)) = false := beq_eq_false_iff_ne.mpr c3
  have c3b1 : ((l0.length : Int) != (l1.length : Int)) = true := bne_iff_ne.mpr c3
  have c3b2 : (l0.length == l1.length) = false := by first | simpa using c3 | (simp at c3 ⊢; omega)
  obtain rfl := Option.some.inj H
  go_enter Try.func46, Try.ntmps46
  go_wp2
  repeat (go_quiet (fail); try go_wp2)
  go_ret
  exact ⟨by first | rfl | (simp; done) | (simp [*]; done), by repeat (first | exact Drawn0.refl _ | apply Drawn0.step)⟩
/-! ### attrs_Same: function 29 -/
def attrs_Same.f (k : Nat) (l0 : List (S40)) (l1 : List (S40)) : Option (Bool) := (api_Attr_46.f k l0 l1).bind fun t256 => (some t256)
set_option maxHeartbeats 8000000 in
set_option maxRecDepth 100000 in
theorem attrs_Same.calls (k : Nat) (A0 : Option Addr) (c0 : Nat) (l0 : List (S40)) (A1 : Option Addr) (c1 : Nat) (l1 : List (S40)) (r : Bool) (w : World) (hr0 : Kd.C k40 w A0 l0.length l0) (hc0 : l0.length ≤ c0) (hr1 : Kd.C k40 w A1 l1.length l1) (hc1 : l1.length ≤ c1) (h : attrs_Same.f k l0 l1 = some r) :
  Calls Try.prog 29 #[.slice A0 l0.length c0, .slice A1 l1.length c1] w fun e w' => e = .returned (.bool r) ∧ Drawn0 w w' := by
 have HR0 := Aside0.mk hr0
 have HC0 := Aside0.mk hc0
 clear hr0 hc0
 have HR1 := Aside0.mk hr1
 have HC1 := Aside0.mk hc1
 clear hr1 hc1
 have H : ((api_Attr_46.f k l0 l1).bind fun t256 => (some t256)) = some r := h
 clear h
 replace H := Option.bind_eq_some_iff.mp H
 obtain ⟨t256, A30, H⟩ := H
 replace H : (some t256) = some r := H
 have A3 := Aside0.mk A30
 clear A30
 obtain rfl := Option.some.inj H
 go_enter Try.func29, Try.ntmps29
 go_wp2_with (first | ((with_reducible refine gate_callee (f := 46) rfl ?_); refine goesL_ (some 7) rfl rfl Try.func46 (by kernel_rfl) rfl #[.slice A0 l0.length c0, .slice A1 l1.length c1] rfl (by (try simp only [List.map_toArray, List.map_cons, List.map_nil]); first | done | rfl | (simp only [List.length_drop, List.length_take]; rfl)) ?_; (with_reducible refine (api_Attr_46.calls k _ _ l0 _ _ l1 t256 _ ?side1 ?side2 ?side3 ?side4 A3.out).mono ?_); (case side1 => repeat (first | exact HR0.out | (with_reducible refine Kd.C_alloc ?_ _) | (with_reducible refine Kd.C_drewN ?_ _) | (with_reducible refine Kd.C_drew ?_))); (case side2 => exact HC0.out); (case side3 => repeat (first | exact HR1.out | (with_reducible refine Kd.C_alloc ?_ _) | (with_reducible refine Kd.C_drewN ?_ _) | (with_reducible refine Kd.C_drew ?_))); (case side4 => exact HC1.out); rintro e w' ⟨rfl, ⟨nd, rfl⟩⟩; refine ⟨_, rfl, ?_⟩))
 go_ret
 exact ⟨by first | rfl | (simp; done) | (simp [*]; done), by repeat (first | exact Drawn0.refl _ | apply Drawn0.step)⟩
/-! ### slices_Clone_int32_int32: function 37 -/
def slices_Clone_int32_int32.f (l0 : List Int) : Option (List Int) := (some (([] : List Int) : List Int)).bind fun y257 => (if y257.length + l0.length < 35184372088832 then (some (y257 ++ l0)) else (none))
set_option maxHeartbeats 8000000 in
set_option maxRecDepth 100000 in
theorem slices_Clone_int32_int32.calls (A0 : Option Addr) (c0 : Nat) (l0 : List Int) (r : List Int) (w : World) (hr0 : Kd.C (Kd.int .i32) w A0 l0.length l0) (hc0 : l0.length ≤ c0) (h : slices_Clone_int32_int32.f l0 = some r) :
  Calls Try.prog 37 #[.slice A0 l0.length c0] w fun e w' => ∃ v0_ : Value, e = .returned (v0_) ∧ Kd.R (Kd.int .i32) 21 w' w.heap.size (fun _ => True) v0_ r ∧ Below w.heap.size w w' := by
 rcases A0 with _ | ad0
 ·have hl0 : l0 = [] := by
   obtain ⟨hl_, _, ha_⟩ := hr0
   rcases Nat.eq_zero_or_pos l0.length with hz | hz
   ·exact List.eq_nil_of_length_eq_zero hz
   ·obtain ⟨ad_, hx_, _⟩ := ha_ hz
    cases hx_
  subst hl0
  have hr : r = [] := by
   unfold slices_Clone_int32_int32.f at h
   simp only [Option.bind_some, List.append_nil] at h
   split at h
   ·exact (Option.some.inj h).symm
   ·cases h
  subst hr
  have heq := fun (W : World) (q c : Nat) => Lib.run_eql_slice_nil (P := Try.prog) W 26 21 none q c 0 0 Try.underlying26
  clear h hr0
  go_enter Try.func37, Try.ntmps37
  go_wp2
  go_ret
  exact ⟨_, rfl, by first | exact Kd.R_nil _ _ _ _ _ | exact Kd.N_nil _ _ _ _ _ | exact Kd.V_nil _ _ _ _ _ | exact Kd.Q_nil _ _ _ _ _ | exact Kd.S_nil _ _ _ _ _, by repeat (first | exact Below.refl _ _ | apply below_alloc | apply pw_below_drewN | apply below_drew1)⟩
 ·have heq := fun (W : World) (q c : Nat) => Lib.run_eql_slice_nil (P := Try.prog) W 26 21 (some ad0) q c 0 0 Try.underlying26
  have HR0 := Aside0.mk hr0
  have HC0 := Aside0.mk hc0
  clear hr0 hc0
  have HB := Aside0.mk (Below.refl w.heap.size w)
  have H : ((some (([] : List Int) : List Int)).bind fun y257 => (if y257.length + l0.length < 35184372088832 then (some (y257 ++ l0)) else (none))) = some r := h
  clear h
  obtain ⟨y257, hy257⟩ : ∃ y_ : List Int, y_ = (([] : List Int)) := ⟨_, rfl⟩
  replace H : (if y257.length + l0.length < 35184372088832 then (some (y257 ++ l0)) else (none)) = some r := by first | (rw [hy257]; with_reducible exact H) | (have H2_ := (Option.bind_some _ _).symm.trans H; rw [hy257]; with_reducible exact H2_) | (have H2_ := (Option.bind_some _ _).symm.trans H; with_reducible exact H2_) | with_reducible exact H | (rw [hy257]; exact H) | exact H
  have Ny257 := Aside0.mk hy257
  clear hy257
  by_cases c2 : y257.length + l0.length < 35184372088832
  ·rw [if_pos c2] at H
   have LMc2 := Aside0.mk c2
   clear c2
   obtain ⟨y260, hy260⟩ : ∃ y_ : List Int, y_ = (y257 ++ l0) := ⟨_, rfl⟩
   replace H : (some y260) = some r := by first | (rw [hy260]; with_reducible exact H) | (have H2_ := (Option.bind_some _ _).symm.trans H; rw [hy260]; with_reducible exact H2_) | (have H2_ := (Option.bind_some _ _).symm.trans H; with_reducible exact H2_) | with_reducible exact H | (rw [hy260]; exact H) | exact H
   have Ny260 := Aside0.mk hy260
   clear hy260
   obtain rfl := Option.some.inj H
   go_enter Try.func37, Try.ntmps37
   go_wp2_with (first | ((with_reducible refine gate_dst (N := 5) rfl ?_); refine Kd.R_lit (Kd.int .i32) _ 21 ?hg (N := 5) ?hd (xs := ([] : List Int)) (inner := []) (ok := fun _ => True) (okp := fun _ => True) ?hr ?hp (fun _ hk => hk) trivial (Below.refl _ _) (Nat.le_refl _) (by simp) ?_; (case hd => rfl); (case hg => rfl); (case hr => first | (go_simp; done) | (go_simp; rfl)); (case hp => exact (Reps.none _ _)); intro v258 w3 ho4 hb hg_ hnew_; clear hg_ hnew_; (first | rw [← Ny257.out] at ho4 | (simp only [Int.reduceToNat] at ho4; rw [← Ny257.out] at ho4)); have n0_ := Aside0.mk (Kd.R_lower ho4 (below_size (by repeat (first | (with_reducible first | exact HB.out | apply below_alloc | apply pw_below_drewN | apply below_drew1) | exact HB.out | exact Below.refl _ _)))); have n1_ := Aside0.mk (below_step (by repeat (first | (with_reducible first | exact HB.out | apply below_alloc | apply pw_below_drewN | apply below_drew1) | exact HB.out | exact Below.refl _ _)) hb); clear HB; have HO259 := n0_; have HB := n1_; clear n0_ n1_; clear hb ho4) | ((with_reducible refine gate_builtin (b := .append) (xs := #[.tmp 5, .tmp 6]) rfl ?_); at_builtin; refine Kd.R_append_rows (Kd.int .i32) (w0 := w) w.heap.size rfl (.tmp 5) (.tmp 6) 26 21 (.int .i32 0) 4 rfl Try.underlying26 info21 rfl (by decide) (by omega) v258 y257 l0 _ _ _ (fun _ => True) (fun _ => False) rfl rfl ?aO ?aR (fun _ _ h => h) (fun _ h => h.elim) ?aF ?aB ?aS ?aL ?_; (case aR => repeat (first | exact (Kd.C_below HR0.out HB.out) | (with_reducible refine Kd.C_alloc ?_ _) | (with_reducible refine Kd.C_drewN ?_ _) | (with_reducible refine Kd.C_drew ?_))); (case aB => exact (by repeat (first | (with_reducible first | exact HB.out | apply below_alloc | apply pw_below_drewN | apply below_drew1) | exact HB.out | exact Below.refl _ _))); (case aF => exact (fun _ _ => trivial)); (case aO => exact (by (with_reducible repeat (first | apply Kd.R_alloc | apply Kd.R_drewN | apply Kd.R_drew)); exact HO259.out)); (case aS => exact (below_size (by repeat (first | (with_reducible first | exact HB.out | apply below_alloc | apply pw_below_drewN | apply below_drew1) | exact HB.out | exact Below.refl _ _)))); (case aL => have := LMc2.out; omega); intro v261 w5 ho hb hg hat; rw [← Ny260.out] at ho; have n0_ := Aside0.mk (hb); have n1_ := Aside0.mk (ho); clear HB; clear HO259; have HB := n0_; have HO262 := n1_; clear n0_ n1_; clear ho hb hg hat))
   go_ret
   exact ⟨_, by first | rfl | (simp [errW_none, errW_some] <;> rfl) | (simp [*, errW_none, errW_some] <;> rfl), by (with_reducible repeat (first | apply Kd.R_alloc | apply Kd.R_drewN | apply Kd.R_drew)); exact HO262.out, by repeat (first | (with_reducible first | exact HB.out | apply below_alloc | apply pw_below_drewN | apply below_drew1) | exact HB.out | exact Below.refl _ _)⟩
  ·rw [if_neg c2] at H
   exact absurd H (by simp)
/-! ### api_Attr_50: function 50 -/
def api_Attr_50.f (l0 : List (S40)) : Option ((List (S40))) := (some (([] : List (S40)) : List (S40))).bind fun y263 => (if y263.length + l0.length < 2932031007402 then (some (y263 ++ l0)) else (none))
set_option maxHeartbeats 8000000 in
set_option maxRecDepth 100000 in
theorem api_Attr_50.calls (A0 : Option Addr) (c0 : Nat) (l0 : List (S40)) (r : List (S40)) (w : World) (hr0 : Kd.C k40 w A0 l0.length l0) (hc0 : l0.length ≤ c0) (h : api_Attr_50.f l0 = some r) :
  Calls Try.prog 50 #[.slice A0 l0.length c0] w fun e w' => ∃ v0_ : Value, e = .returned (v0_) ∧ Kd.R k40 40 w' w.heap.size (fun _ => True) v0_ r ∧ Below w.heap.size w w' := by
 rcases A0 with _ | ad0
 ·have hl0 : l0 = [] := by
   obtain ⟨hl_, _, ha_⟩ := hr0
   rcases Nat.eq_zero_or_pos l0.length with hz | hz
   ·exact List.eq_nil_of_length_eq_zero hz
   ·obtain ⟨ad_, hx_, _⟩ := ha_ hz
    cases hx_
  subst hl0
  have hr : r = [] := by
   unfold api_Attr_50.f at h
   simp only [Option.bind_some, List.append_nil] at h
   split at h
   ·exact (Option.some.inj h).symm
   ·cases h
  subst hr
  have heq := fun (W : World) (q c : Nat) => Lib.run_eql_slice_nil (P := Try.prog) W 27 40 none q c 0 0 Try.underlying27
  clear h hr0
  go_enter Try.func50, Try.ntmps50
  go_wp2
  go_ret
  exact ⟨_, rfl, by first | exact Kd.R_nil _ _ _ _ _ | exact Kd.N_nil _ _ _ _ _ | exact Kd.V_nil _ _ _ _ _ | exact Kd.Q_nil _ _ _ _ _ | exact Kd.S_nil _ _ _ _ _, by repeat (first | exact Below.refl _ _ | apply below_alloc | apply pw_below_drewN | apply below_drew1)⟩
 ·have heq := fun (W : World) (q c : Nat) => Lib.run_eql_slice_nil (P := Try.prog) W 27 40 (some ad0) q c 0 0 Try.underlying27
  have HR0 := Aside0.mk hr0
  have HC0 := Aside0.mk hc0
  clear hr0 hc0
  have HB := Aside0.mk (Below.refl w.heap.size w)
  have H : ((some (([] : List (S40)) : List (S40))).bind fun y263 => (if y263.length + l0.length < 2932031007402 then (some (y263 ++ l0)) else (none))) = some r := h
  clear h
  obtain ⟨y263, hy263⟩ : ∃ y_ : List (S40), y_ = (([] : List (S40))) := ⟨_, rfl⟩
  replace H : (if y263.length + l0.length < 2932031007402 then (some (y263 ++ l0)) else (none)) = some r := by first | (rw [hy263]; with_reducible exact H) | (have H2_ := (Option.bind_some _ _).symm.trans H; rw [hy263]; with_reducible exact H2_) | (have H2_ := (Option.bind_some _ _).symm.trans H; with_reducible exact H2_) | with_reducible exact H | (rw [hy263]; exact H) | exact H
  have Ny263 := Aside0.mk hy263
  clear hy263
  by_cases c2 : y263.length + l0.length < 2932031007402
  ·rw [if_pos c2] at H
   have LMc2 := Aside0.mk c2
   clear c2
   obtain ⟨y266, hy266⟩ : ∃ y_ : List (S40), y_ = (y263 ++ l0) := ⟨_, rfl⟩
   replace H : (some y266) = some r := by first | (rw [hy266]; with_reducible exact H) | (have H2_ := (Option.bind_some _ _).symm.trans H; rw [hy266]; with_reducible exact H2_) | (have H2_ := (Option.bind_some _ _).symm.trans H; with_reducible exact H2_) | with_reducible exact H | (rw [hy266]; exact H) | exact H
   have Ny266 := Aside0.mk hy266
   clear hy266
   obtain rfl := Option.some.inj H
   go_enter Try.func50, Try.ntmps50
   go_wp2_with (first | ((with_reducible refine gate_dst (N := 5) rfl ?_); refine Kd.R_lit k40 _ 40 ?hg (N := 5) ?hd (xs := ([] : List (S40))) (inner := []) (ok := fun _ => True) (okp := fun _ => True) ?hr ?hp (fun _ hk => hk) trivial (Below.refl _ _) (Nat.le_refl _) (by simp) ?_; (case hd => rfl); (case hg => rfl); (case hr => first | (go_simp; done) | (go_simp; rfl)); (case hp => exact (Reps.none _ _)); intro v264 w3 ho4 hb hg_ hnew_; clear hg_ hnew_; (first | rw [← Ny263.out] at ho4 | (simp only [Int.reduceToNat] at ho4; rw [← Ny263.out] at ho4)); have n0_ := Aside0.mk (Kd.R_lower ho4 (below_size (by repeat (first | (with_reducible first | exact HB.out | apply below_alloc | apply pw_below_drewN | apply below_drew1) | exact HB.out | exact Below.refl _ _)))); have n1_ := Aside0.mk (below_step (by repeat (first | (with_reducible first | exact HB.out | apply below_alloc | apply pw_below_drewN | apply below_drew1) | exact HB.out | exact Below.refl _ _)) hb); clear HB; have HO265 := n0_; have HB := n1_; clear n0_ n1_; clear hb ho4) | ((with_reducible refine gate_builtin (b := .append) (xs := #[.tmp 5, .tmp 6]) rfl ?_); at_builtin; refine Kd.R_append_rows k40 (w0 := w) w.heap.size rfl (.tmp 5) (.tmp 6) 27 40 (.agg #[(.int .i64 0), (.int .u8 0), (.int .i64 0), (.int .u64 0), (.string ⟨#[]⟩)]) 48 rfl Try.underlying27 info40 rfl (by decide) (by omega) v264 y263 l0 _ _ _ (fun _ => True) (fun _ => False) rfl rfl ?aO ?aR (fun _ _ h => h) (fun _ h => h.elim) ?aF ?aB ?aS ?aL ?_; (case aR => repeat (first | exact (Kd.C_below HR0.out HB.out) | (with_reducible refine Kd.C_alloc ?_ _) | (with_reducible refine Kd.C_drewN ?_ _) | (with_reducible refine Kd.C_drew ?_))); (case aB => exact (by repeat (first | (with_reducible first | exact HB.out | apply below_alloc | apply pw_below_drewN | apply below_drew1) | exact HB.out | exact Below.refl _ _))); (case aF => exact (fun _ _ => trivial)); (case aO => exact (by (with_reducible repeat (first | apply Kd.R_alloc | apply Kd.R_drewN | apply Kd.R_drew)); exact HO265.out)); (case aS => exact (below_size (by repeat (first | (with_reducible first | exact HB.out | apply below_alloc | apply pw_below_drewN | apply below_drew1) | exact HB.out | exact Below.refl _ _)))); (case aL => have := LMc2.out; omega); intro v267 w5 ho hb hg hat; rw [← Ny266.out] at ho; have n0_ := Aside0.mk (hb); have n1_ := Aside0.mk (ho); clear HB; clear HO265; have HB := n0_; have HO268 := n1_; clear n0_ n1_; clear ho hb hg hat))
   go_ret
   exact ⟨_, by first | rfl | (simp [errW_none, errW_some] <;> rfl) | (simp [*, errW_none, errW_some] <;> rfl), by (with_reducible repeat (first | apply Kd.R_alloc | apply Kd.R_drewN | apply Kd.R_drew)); exact HO268.out, by repeat (first | (with_reducible first | exact HB.out | apply below_alloc | apply pw_below_drewN | apply below_drew1) | exact HB.out | exact Below.refl _ _)⟩
  ·rw [if_neg c2] at H
   exact absurd H (by simp)
/-! ### attrs_Copy: function 38 -/
def attrs_Copy.f (l0 : List (S40)) : Option ((List (S40))) := (api_Attr_50.f l0).bind fun t269 => (some t269)
set_option maxHeartbeats 8000000 in
set_option maxRecDepth 100000 in
theorem attrs_Copy.calls (A0 : Option Addr) (c0 : Nat) (l0 : List (S40)) (r : List (S40)) (w : World) (hr0 : Kd.C k40 w A0 l0.length l0) (hc0 : l0.length ≤ c0) (h : attrs_Copy.f l0 = some r) :
  Calls Try.prog 38 #[.slice A0 l0.length c0] w fun e w' => ∃ v0_ : Value, e = .returned (v0_) ∧ Kd.R k40 40 w' w.heap.size (fun _ => True) v0_ r ∧ Below w.heap.size w w' := by
 have HR0 := Aside0.mk hr0
 have HC0 := Aside0.mk hc0
 clear hr0 hc0
 have HB := Aside0.mk (Below.refl w.heap.size w)
 have H : ((api_Attr_50.f l0).bind fun t269 => (some t269)) = some r := h
 clear h
 replace H := Option.bind_eq_some_iff.mp H
 obtain ⟨t269, A20, H⟩ := H
 replace H : (some t269) = some r := H
 have A2 := Aside0.mk A20
 clear A20
 obtain rfl := Option.some.inj H
 go_enter Try.func38, Try.ntmps38
 go_wp2_with (first | ((with_reducible refine gate_callee (f := 50) rfl ?_); refine goesL_ (some 4) rfl rfl Try.func50 (by kernel_rfl) rfl #[.slice A0 l0.length c0] rfl (by (try simp only [List.map_toArray, List.map_cons, List.map_nil]); first | done | rfl | (simp only [List.length_drop, List.length_take]; rfl)) ?_; (with_reducible refine (api_Attr_50.calls _ _ l0 t269 _ ?side1 ?side2 A2.out).mono ?_); (case side1 => repeat (first | exact HR0.out | (with_reducible refine Kd.C_alloc ?_ _) | (with_reducible refine Kd.C_drewN ?_ _) | (with_reducible refine Kd.C_drew ?_))); (case side2 => exact HC0.out); rintro e w3 ⟨v270, rfl, ho0, hb⟩; refine ⟨_, rfl, ?_⟩; have n0_ := Aside0.mk (Kd.R_lower ho0 (below_size (by repeat (first | (with_reducible first | exact HB.out | apply below_alloc | apply pw_below_drewN | apply below_drew1) | exact HB.out | exact Below.refl _ _)))); have n1_ := Aside0.mk (below_step (by repeat (first | (with_reducible first | exact HB.out | apply below_alloc | apply pw_below_drewN | apply below_drew1) | exact HB.out | exact Below.refl _ _)) hb); clear HB; have HO271 := n0_; have HB := n1_; clear n0_ n1_; (try clear hb); (try clear hb2); (try clear hk); (try clear hi); (try clear ho0)))
 go_ret
 exact ⟨_, by first | rfl | (simp [errW_none, errW_some] <;> rfl) | (simp [*, errW_none, errW_some] <;> rfl), by (with_reducible repeat (first | apply Kd.R_alloc | apply Kd.R_drewN | apply Kd.R_drew)); exact HO271.out, by repeat (first | (with_reducible first | exact HB.out | apply below_alloc | apply pw_below_drewN | apply below_drew1) | exact HB.out | exact Below.refl _ _)⟩
end Go.Proofs.Ytmjeoknamoegpaa.P
namespace Go.Proofs.Ytmjeoknamoegpaa.P
open Go.RowKit Go.Proofs.YtmjeoknamoegpaaW.PrintWords Go.Proofs.YtmjeoknamoegpaaW.PrintLast Go.Proofs.YtmjeoknamoegpaaW.PrintMore
set_option linter.unusedVariables false
set_option linter.unusedSimpArgs false
theorem wrap_succ (i n : Nat) (h : i < n) (hn : n ≤ 9223372036854775807) : wrap64 ((i : Int) + 1) = ((i + 1 : Nat) : Int) := by unfold wrap64; omega
/-! ### keys: what a comparison looks at -/
def nrmV (x : S38) : Int × Int × Int × List UInt8 := (x.f0, x.f1, x.f2, x.f3.toList)
def nrmA (x : S40) : Int × Int × Int × Int × List UInt8 := (x.f0, nrmV x.f1)
def nrmC (x : S42) : Int × Bool × Int × Int × Int × List UInt8 := (x.f0, x.f1, nrmV x.f2)
abbrev KeyA := List (Int × Int × Int × Int × List UInt8)
abbrev KeyC := List (Int × Bool × Int × Int × Int × List UInt8)
abbrev KeyO := Int × Int × List Int × KeyA × KeyC
def keyA (a : List S40) : KeyA := a.map nrmA
def keyC (a : List S42) : KeyC := a.map nrmC
def keyO (x : S30) : KeyO := (x.f0, x.f1, x.f2, keyA x.f3, keyC x.f4)
theorem keyA_length (a : List S40) : (keyA a).length = a.length := by simp [keyA]
theorem keyC_length (a : List S42) : (keyC a).length = a.length := by simp [keyC]
instance decT0 : DecidableEq (List UInt8) := instDecidableEqList
instance decT1 : DecidableEq (Int × List UInt8) := instDecidableEqProd
instance decT2 : DecidableEq (Int × Int × List UInt8) := instDecidableEqProd
instance decT3 : DecidableEq (Int × Int × Int × List UInt8) := instDecidableEqProd
instance decT4 : DecidableEq (Int × Int × Int × Int × List UInt8) := instDecidableEqProd
instance decT5 : DecidableEq (Bool × Int × Int × Int × List UInt8) := instDecidableEqProd
instance decT6 : DecidableEq (Int × Bool × Int × Int × Int × List UInt8) := instDecidableEqProd
instance decKA : DecidableEq KeyA := instDecidableEqList
instance decKC : DecidableEq KeyC := instDecidableEqList
instance decT7 : DecidableEq (KeyA × KeyC) := instDecidableEqProd
instance decT8 : DecidableEq (List Int × KeyA × KeyC) := instDecidableEqProd
instance decT9 : DecidableEq (Int × List Int × KeyA × KeyC) := instDecidableEqProd
instance decKO : DecidableEq KeyO := instDecidableEqProd
instance decKOs : DecidableEq (List KeyO) := instDecidableEqList
def eqB {α : Type} [DecidableEq α] (a b : α) : Bool := decide (a = b)
theorem eqB_true {α : Type} [DecidableEq α] {a b : α} : eqB a b = true ↔ a = b := by unfold eqB; exact decide_eq_true_iff
theorem eqB_false {α : Type} [DecidableEq α] {a b : α} : eqB a b = false ↔ a ≠ b := by unfold eqB; exact decide_eq_false_iff_not
theorem eqB_congr {α β : Type} [DecidableEq α] [DecidableEq β] {a b : α} {c d : β} (h : a = b ↔ c = d) : eqB a b = eqB c d := by
 by_cases h1 : a = b
 ·rw [eqB_true.2 h1, eqB_true.2 (h.1 h1)]
 ·rw [eqB_false.2 h1, eqB_false.2 (fun h2 => h1 (h.2 h2))]
theorem differsA (x y : S40) : ((!(x.f0 == y.f0) || ((!(x.f1.f0 == y.f1.f0) || (!(x.f1.f1 == y.f1.f1)) || (!(x.f1.f2 == y.f1.f2)) || (!(x.f1.f3.toList == y.f1.f3.toList))))) = true) ↔ nrmA x ≠ nrmA y := by
 simp only [nrmA, nrmV, ne_eq, Prod.mk.injEq, Bool.or_eq_true, Bool.not_eq_true', beq_eq_false_iff_ne, ne_eq]
 by_cases h1 : x.f0 = y.f0 <;> by_cases h2 : x.f1.f0 = y.f1.f0 <;> by_cases h3 : x.f1.f1 = y.f1.f1 <;> by_cases h4 : x.f1.f2 = y.f1.f2 <;> by_cases h5 : x.f1.f3.toList = y.f1.f3.toList <;> simp [*]
theorem differsC (x y : S42) : ((!(x.f0 == y.f0) || (!(x.f1 == y.f1) || ((!(x.f2.f0 == y.f2.f0) || (!(x.f2.f1 == y.f2.f1)) || (!(x.f2.f2 == y.f2.f2)) || (!(x.f2.f3.toList == y.f2.f3.toList)))))) = true) ↔ nrmC x ≠ nrmC y := by
 simp only [nrmC, nrmV, ne_eq, Prod.mk.injEq, Bool.or_eq_true, Bool.not_eq_true', beq_eq_false_iff_ne, ne_eq]
 by_cases h1 : x.f0 = y.f0 <;> by_cases h0 : x.f1 = y.f1 <;> by_cases h2 : x.f2.f0 = y.f2.f0 <;> by_cases h3 : x.f2.f1 = y.f2.f1 <;> by_cases h4 : x.f2.f2 = y.f2.f2 <;> by_cases h5 : x.f2.f3.toList = y.f2.f3.toList <;> simp [*]
theorem rd40_get (a : List S40) (i : Nat) (h : i < a.length) : rd_T40 a (i : Int) = a[i] := by simp [rd_T40, h]
theorem rd42_get (a : List S42) (i : Nat) (h : i < a.length) : rd_T42 a (i : Int) = a[i] := by simp [rd_T42, h]
theorem rd30_get (a : List S30) (i : Nat) (h : i < a.length) : rd_T30 a (i : Int) = a[i] := by simp [rd_T30, h]
theorem rd_get (a : List Int) (i : Nat) (h : i < a.length) : rd a (i : Int) = a[i] := by simp [rd, h]
theorem map_drop_eq {α β : Type} (f : α → β) (a b : List α) (i : Nat) (ha : i < a.length) (hb : i < b.length) : ((a.drop i).map f = (b.drop i).map f) ↔ (f a[i] = f b[i] ∧ (a.drop (i + 1)).map f = (b.drop (i + 1)).map f) := by
 rw [List.drop_eq_getElem_cons ha, List.drop_eq_getElem_cons hb]
 simp only [List.map_cons, List.cons.injEq]
theorem eqI_loop (a b : List Int) (hl : a.length = b.length) (hs : a.length ≤ 9223372036854775807) : ∀ (k i : Nat), i ≤ a.length → a.length - i < k → slices_Equal_int32_int32.l0 k a b (a.length : Int) (i : Int) = some (eqB (a.drop i) (b.drop i))
 | 0, i, _, hk => by omega
 | k + 1, i, hi, hk => by
  unfold slices_Equal_int32_int32.l0
  by_cases h : i < a.length
  ·rw [if_pos (by omega), if_pos (by omega), if_pos (by omega), if_pos (by omega), rd_get a i h, rd_get b i (by omega)]
   have ih := eqI_loop a b hl hs k (i + 1) (by omega) (by omega)
   have hm := map_drop_eq id a b i h (by omega)
   simp only [List.map_id, id] at hm
   by_cases hd : a[i] = b[i]
   ·rw [if_pos hd, wrap_succ i _ h hs, ih, eqB_congr (hm.trans ⟨fun h => h.2, fun h => ⟨hd, h⟩⟩)]
   ·rw [if_neg hd, eqB_false.2 (fun h => hd (hm.1 h).1)]
  ·rw [if_neg (by omega)]
   rw [List.drop_eq_nil_of_le (by omega), List.drop_eq_nil_of_le (by omega), eqB_true.2 rfl]
theorem eqI (a b : List Int) (hs : a.length ≤ 9223372036854775807) (k : Nat) (hk : a.length < k) : slices_Equal_int32_int32.f k a b = some (eqB a b) := by
 unfold slices_Equal_int32_int32.f
 by_cases hl : a.length = b.length
 ·rw [if_pos (by omega)]
  have := eqI_loop a b hl hs k 0 (by omega) (by omega)
  simpa using this
 ·rw [if_neg (by omega), eqB_false.2 (fun h => hl (congrArg List.length h))]
theorem eqA_loop (a b : List S40) (hl : a.length = b.length) (hs : a.length ≤ 9223372036854775807) : ∀ (k i : Nat), i ≤ a.length → a.length - i < k → api_Attr_46.l0 k a b (a.length : Int) (i : Int) = some (eqB (keyA (a.drop i)) (keyA (b.drop i)))
 | 0, i, _, hk => by omega
 | k + 1, i, hi, hk => by
  unfold api_Attr_46.l0
  by_cases h : i < a.length
  ·rw [if_pos (by omega), if_pos (by omega), if_pos (by omega), if_pos (by omega), rd40_get a i h, rd40_get b i (by omega)]
   have ih := eqA_loop a b hl hs k (i + 1) (by omega) (by omega)
   have hm := map_drop_eq nrmA a b i h (by omega)
   by_cases hd : nrmA a[i] = nrmA b[i]
   ·rw [if_neg (fun hc => (differsA _ _).1 (by simpa only [Bool.or_assoc] using hc) hd), wrap_succ i _ h hs, ih]
    exact congrArg some (eqB_congr (hm.trans ⟨fun h => h.2, fun h => ⟨hd, h⟩⟩)).symm
   ·rw [if_pos (by simpa only [Bool.or_assoc] using (differsA _ _).2 hd)]
    exact congrArg some (eqB_false.2 (fun h => hd (hm.1 h).1)).symm
  ·rw [if_neg (by omega)]
   rw [List.drop_eq_nil_of_le (by omega), List.drop_eq_nil_of_le (by omega), eqB_true.2 rfl]
theorem eqA (a b : List S40) (hs : a.length ≤ 9223372036854775807) (k : Nat) (hk : a.length < k) : attrs_Same.f k a b = some (eqB (keyA a) (keyA b)) := by
 unfold attrs_Same.f api_Attr_46.f
 by_cases hl : a.length = b.length
 ·rw [if_pos (by omega)]
  have := eqA_loop a b hl hs k 0 (by omega) (by omega)
  simp only [List.drop_zero] at this
  rw [show ((0 : Nat) : Int) = 0 from rfl] at this
  rw [this]; rfl
 ·rw [if_neg (by omega), eqB_false.2 (fun h => hl (by rw [← keyA_length a, ← keyA_length b, h]))]; rfl
theorem eqC_loop (a b : List S42) (hl : a.length = b.length) (hs : a.length ≤ 9223372036854775807) : ∀ (k i : Nat), i ≤ a.length → a.length - i < k → api_Change_47.l0 k a b (a.length : Int) (i : Int) = some (eqB (keyC (a.drop i)) (keyC (b.drop i)))
 | 0, i, _, hk => by omega
 | k + 1, i, hi, hk => by
  unfold api_Change_47.l0
  by_cases h : i < a.length
  ·rw [if_pos (by omega), if_pos (by omega), if_pos (by omega), if_pos (by omega), rd42_get a i h, rd42_get b i (by omega)]
   have ih := eqC_loop a b hl hs k (i + 1) (by omega) (by omega)
   have hm := map_drop_eq nrmC a b i h (by omega)
   by_cases hd : nrmC a[i] = nrmC b[i]
   ·rw [if_neg (fun hc => (differsC _ _).1 (by simpa only [Bool.or_assoc] using hc) hd), wrap_succ i _ h hs, ih]
    exact congrArg some (eqB_congr (hm.trans ⟨fun h => h.2, fun h => ⟨hd, h⟩⟩)).symm
   ·rw [if_pos (by simpa only [Bool.or_assoc] using (differsC _ _).2 hd)]
    exact congrArg some (eqB_false.2 (fun h => hd (hm.1 h).1)).symm
  ·rw [if_neg (by omega)]
   rw [List.drop_eq_nil_of_le (by omega), List.drop_eq_nil_of_le (by omega), eqB_true.2 rfl]
theorem eqC (a b : List S42) (hs : a.length ≤ 9223372036854775807) (k : Nat) (hk : a.length < k) : patch_Same.f k a b = some (eqB (keyC a) (keyC b)) := by
 unfold patch_Same.f api_Change_47.f
 by_cases hl : a.length = b.length
 ·rw [if_pos (by omega)]
  have := eqC_loop a b hl hs k 0 (by omega) (by omega)
  simp only [List.drop_zero] at this
  rw [show ((0 : Nat) : Int) = 0 from rfl] at this
  rw [this]; rfl
 ·rw [if_neg (by omega), eqB_false.2 (fun h => hl (by rw [← keyC_length a, ← keyC_length b, h]))]; rfl
/-! ### the contracts, in this form -/
theorem equalI_calls (A0 : Option Addr) (c0 : Nat) (l0 : List Int) (A1 : Option Addr) (c1 : Nat) (l1 : List Int) (w : World) (hr0 : Kd.C (Kd.int .i32) w A0 l0.length l0) (hc0 : l0.length ≤ c0) (hr1 : Kd.C (Kd.int .i32) w A1 l1.length l1) (hc1 : l1.length ≤ c1) :
  Calls Try.prog 28 #[.slice A0 l0.length c0, .slice A1 l1.length c1] w fun e w' => e = .returned (.bool (eqB l0 l1)) ∧ Drawn0 w w' :=
 slices_Equal_int32_int32.calls (l0.length + 1) A0 c0 l0 A1 c1 l1 _ w hr0 hc0 hr1 hc1 (eqI l0 l1 hr0.2.1 _ (by omega))
theorem equalA_calls (A0 : Option Addr) (c0 : Nat) (l0 : List S40) (A1 : Option Addr) (c1 : Nat) (l1 : List S40) (w : World) (hr0 : Kd.C k40 w A0 l0.length l0) (hc0 : l0.length ≤ c0) (hr1 : Kd.C k40 w A1 l1.length l1) (hc1 : l1.length ≤ c1) :
  Calls Try.prog 29 #[.slice A0 l0.length c0, .slice A1 l1.length c1] w fun e w' => e = .returned (.bool (eqB (keyA l0) (keyA l1))) ∧ Below w.heap.size w w' :=
 (attrs_Same.calls (l0.length + 1) A0 c0 l0 A1 c1 l1 _ w hr0 hc0 hr1 hc1 (eqA l0 l1 hr0.2.1 _ (by omega))).mono fun e w' h => ⟨h.1, by first | exact h.2 | exact h.2.below⟩
theorem equalC_calls (A0 : Option Addr) (c0 : Nat) (l0 : List S42) (A1 : Option Addr) (c1 : Nat) (l1 : List S42) (w : World) (hr0 : Kd.C k42 w A0 l0.length l0) (hc0 : l0.length ≤ c0) (hr1 : Kd.C k42 w A1 l1.length l1) (hc1 : l1.length ≤ c1) :
  Calls Try.prog 30 #[.slice A0 l0.length c0, .slice A1 l1.length c1] w fun e w' => e = .returned (.bool (eqB (keyC l0) (keyC l1))) ∧ Below w.heap.size w w' :=
 (patch_Same.calls (l0.length + 1) A0 c0 l0 A1 c1 l1 _ w hr0 hc0 hr1 hc1 (eqC l0 l1 hr0.2.1 _ (by omega))).mono fun e w' h => ⟨h.1, by first | exact h.2 | exact h.2.below⟩
end Go.Proofs.Ytmjeoknamoegpaa.P
namespace Go.Proofs.Ytmjeoknamoegpaa.P
open Go.RowKit Go.Proofs.YtmjeoknamoegpaaW.PrintWords Go.Proofs.YtmjeoknamoegpaaW.PrintLast Go.Proofs.YtmjeoknamoegpaaW.PrintMore
set_option linter.unusedVariables false
set_option linter.unusedSimpArgs false
def gapP (I : List S30) (g : Int) : List S30 := if g > 0 then I ++ [⟨3, g, [], [], []⟩] else I
theorem clone_eq (I : List S30) (h : I.length < 1599289640401) : api_Op_48.f I = some I := by
 unfold api_Op_48.f
 simp [h]
/-- What an op's cells lead to. -/
theorem op3_FK (W : World) (ok : Nat → Prop) (k n : Int) : Kd.FK k30 W ok ⟨k, n, [], [], []⟩ [.int .u8 k, .int .i64 n, .slice none 0 0, .slice none 0 0, .slice none 0 0] := fun W' _ =>
 k30_mk W' ⟨k, n, [], [], []⟩ (by simp) (Kd.C_nil _ _) (by simp) (Kd.C_nil _ _) (by simp) (Kd.C_nil _ _)
set_option maxHeartbeats 1000000 in
set_option maxRecDepth 100000 in
theorem gap_calls (p : Nat) (A : Option Addr) (c : Nat) (I : List S30) (g : Int) (okI : Nat → Prop) (w : World) (h1 : w.cell? ⟨p, 1, none⟩ = some (.slice A I.length c)) (h2 : w.cell? ⟨p, 2, none⟩ = some (.int .i64 g))
  (hV : Kd.V k30 30 w w.heap.size okI (.slice A I.length c) I) (hl : I.length ≤ 1000000) :
  Calls Try.prog 35 #[.pointer (some ⟨p, 0, none⟩)] w fun e w' => ∃ v : Value, e = .returned v ∧ Kd.N k30 30 w' w.heap.size (fun k => okI k ∨ w.heap.size ≤ k) v (gapP I g) ∧ Below w.heap.size w w' := by
 have HV := Aside0.mk hV
 have H2 := Aside0.mk h2
 clear hV
 unfold gapP
 by_cases hg : g > 0
 ·rw [if_pos hg]
  have hgb : decide (0 < g) = true := decide_eq_true hg
  clear hg
  go_enter Try.func35, Try.ntmps35
  go_wp2_with fail
  go_at_call 48
  refine (api_Op_48.calls okI A c I I w HV.out (clone_eq I (by omega))).mono ?_
  rintro e w1 ⟨v, rfl, hN, hb⟩
  have h2' : w1.cell? ⟨p, 2, none⟩ = some (.int .i64 g) := (hb.cell (World.block_lt_of_cell? w _ H2.out)).trans H2.out
  have HN := Aside0.mk hN
  have HB := Aside0.mk hb
  clear h1 h2 H2 hN hb
  go_wp2_with ((with_reducible refine gate_builtin (b := .append) (xs := #[.tmp 14, .tmp 20]) rfl ?_); at_builtin; refine Kd.N_append k30 (w0 := w) w.heap.size rfl (.tmp 14) (.tmp 20) 23 30 (.agg #[(.int .u8 0), (.int .i64 0), (.slice none 0 0), (.slice none 0 0), (.slice none 0 0)]) 88 rfl Try.underlying23 info30 rfl (by decide) (by omega) v I ⟨3, g, [], [], []⟩ [.int .u8 3, .int .i64 g, .slice none 0 0, .slice none 0 0, .slice none 0 0] (fun k => okI k ∨ w.heap.size ≤ k) (fun _ => False) rfl rfl (op3_FK _ _ _ _) (fun _ hk => hk.elim) (fun k hk => .inr (Nat.le_trans HB.out.size hk)) HN.out HB.out HB.out.size (by omega) ?_; intro v1 w2 hN1 hB1 hg1 hat1; have HN1 := Aside0.mk hN1; have HB1 := Aside0.mk hB1; clear hN1 hB1 hg1 hat1 HN HB)
  go_ret
  exact ⟨_, rfl, HN1.out, HB1.out⟩
 ·rw [if_neg hg]
  have hgb : decide (0 < g) = false := decide_eq_false hg
  clear hg
  go_enter Try.func35, Try.ntmps35
  go_wp2_with fail
  go_at_call 48
  refine (api_Op_48.calls okI A c I I w HV.out (clone_eq I (by omega))).mono ?_
  rintro e w1 ⟨v, rfl, hN, hb⟩
  have h2' : w1.cell? ⟨p, 2, none⟩ = some (.int .i64 g) := (hb.cell (World.block_lt_of_cell? w _ H2.out)).trans H2.out
  have HN := Aside0.mk hN
  have HB := Aside0.mk hb
  clear h1 h2 H2 hN hb
  go_wp2_with fail
  go_ret
  exact ⟨_, rfl, HN.out, HB.out⟩
/-- A maker: done's ops are only read (but for the row's own block), the inserts are its own. -/
def Mk (w : World) (base : Nat) (ok : Nat → Prop) (p : Nat) (D I : List S30) (g : Int) : Prop :=
 ∃ (vD vI : Value) (okD okI : Nat → Prop), w.heap[p]? = some (.cells #[vD, vI, .int .i64 g] 46 (0, 0)) ∧ base ≤ p ∧ ok p ∧ Kd.N k30 30 w base okD vD D ∧ Kd.S k30 30 w base okI vI I ∧
  (∀ k, okD k → base ≤ k ∧ ok k ∧ k ≠ p) ∧ ∀ k, okI k → base ≤ k ∧ ok k ∧ k ≠ p ∧ ¬ okD k
def MkPost (w : World) (base : Nat) (ok : Nat → Prop) (p : Nat) (D I : List S30) (g : Int) (w' : World) : Prop :=
 Mk w' base (fun k => ok k ∨ w.heap.size ≤ k) p D I g ∧ Kept w w' ok ∧ Below base w w'
theorem Mk.mono {w : World} {base p : Nat} {ok ok' : Nat → Prop} {D I : List S30} {g : Int} (h : Mk w base ok p D I g) (hok : ∀ k, ok k → ok' k) : Mk w base ok' p D I g := by
 obtain ⟨vD, vI, okD, okI, h1, h2, h3, h4, h5, h6, h7⟩ := h
 exact ⟨vD, vI, okD, okI, h1, h2, hok _ h3, h4, h5, fun k hk => ⟨(h6 k hk).1, hok _ (h6 k hk).2.1, (h6 k hk).2.2⟩, fun k hk => ⟨(h7 k hk).1, hok _ (h7 k hk).2.1, (h7 k hk).2.2⟩⟩
theorem Mk.step {w w' : World} {base p : Nat} {ok : Nat → Prop} {D I : List S30} {g : Int} (h : Mk w base ok p D I g) (hm : ∀ k, ok k → k < w.heap.size → w'.heap[k]? = w.heap[k]?) : Mk w' base ok p D I g := by
 obtain ⟨vD, vI, okD, okI, h1, h2, h3, h4, h5, h6, h7⟩ := h
 exact ⟨vD, vI, okD, okI, (hm p h3 (blk_lt h1)).trans h1, h2, h3, Kd.N_step h4 (fun k hk hl => hm k (h6 k hk).2.1 hl), Kd.S_step h5 (fun k hk hl => hm k (h7 k hk).2.1 hl), h6, h7⟩
theorem Mk.below {w w' : World} {base p : Nat} {ok : Nat → Prop} {D I : List S30} {g : Int} (h : Mk w base ok p D I g) (hb : Below w.heap.size w w') : Mk w' base ok p D I g := h.step (fun k _ hl => hb.block k hl)
theorem Mk.bound {w : World} {base p : Nat} {ok : Nat → Prop} {D I : List S30} {g : Int} (h : Mk w base ok p D I g) : Mk w base (fun k => ok k ∧ k < w.heap.size) p D I g := by
 obtain ⟨vD, vI, okD, okI, h1, h2, h3, h4, h5, h6, h7⟩ := h
 exact ⟨vD, vI, _, _, h1, h2, ⟨h3, blk_lt h1⟩, Kd.N_bound h4, Kd.S_bound h5, fun k hk => ⟨(h6 k hk.1).1, ⟨(h6 k hk.1).2.1, hk.2⟩, (h6 k hk.1).2.2⟩, fun k hk => ⟨(h7 k hk.1).1, ⟨(h7 k hk.1).2.1, hk.2.2.1⟩, (h7 k hk.1).2.2.1, fun h2 => (h7 k hk.1).2.2.2 h2.1⟩⟩
/-- Fields are put: the rows stay apart. -/
theorem Mk.put {w w' : World} {base p : Nat} {ok : Nat → Prop} {D I D' I' : List S30} {g g' : Int} {vD vI vD' vI' : Value} {okD okI okD' okI' : Nat → Prop} (h1 : w'.heap[p]? = some (.cells #[vD', vI', .int .i64 g'] 46 (0, 0))) (h2 : base ≤ p) (h3 : ok p)
  (h4 : Kd.N k30 30 w' base okD' vD' D') (h5 : Kd.S k30 30 w' base okI' vI' I') (h6 : ∀ k, okD' k → base ≤ k ∧ ok k ∧ k ≠ p) (h7 : ∀ k, okI' k → base ≤ k ∧ ok k ∧ k ≠ p ∧ ¬ okD' k) : Mk w' base ok p D' I' g' :=
 ⟨vD', vI', okD', okI', h1, h2, h3, h4, h5, h6, h7⟩
def deleteP (n g : Int) : Int := wrap64 (g + mx n 0)
set_option maxHeartbeats 1000000 in
set_option maxRecDepth 100000 in
theorem delete_calls (p : Nat) (n g : Int) (D I : List S30) (base : Nat) (ok : Nat → Prop) (w : World) (hM : Mk w base ok p D I g) :
  Calls Try.prog 22 #[.pointer (some ⟨p, 0, none⟩), .int .i64 n] w fun e w' => e = .returned (.tuple #[]) ∧ MkPost w base ok p D I (deleteP n g) w' := by
 obtain ⟨vD, vI, okD, okI, h1, h2, h3, h4, h5, h6, h7⟩ := hM
 have c2 : w.cell? ⟨p, 2, none⟩ = some (.int .i64 g) := by simp [World.cell?, h1]
 have f2 := blk_frozen h1 2
 have H1 := Aside0.mk h1
 have H4 := Aside0.mk h4
 have H5 := Aside0.mk h5
 have H6 := Aside0.mk h6
 have H7 := Aside0.mk h7
 have H3 := Aside0.mk h3
 clear h1 h4 h5 h6 h7 h3
 unfold deleteP
 go_enter Try.func22, Try.ntmps22
 go_wp2_with fail
 all_goals
  go_end0
  refine ⟨rfl, ?_, (Kept.refl w ok).setCell (p := ⟨p, 2, none⟩) (.inl H3.out) _, (Below.refl base w).setCell (p := ⟨p, 2, none⟩) h2 _⟩
  refine Mk.mono (ok := ok) ⟨vD, vI, okD, okI, ?_, h2, H3.out, Kd.N_far H4.out (p := ⟨p, 2, none⟩) (fun k hk => (H6.out k hk).2.2) _, Kd.S_far H5.out (p := ⟨p, 2, none⟩) (fun k hk => (H7.out k hk).2.2.1) _, H6.out, H7.out⟩ (fun k hk => .inl hk)
  refine blk_put H1.out 2 _ ?_
  unfold mx
  first | (rw [if_neg (by omega)]; rfl) | (rw [if_pos (by omega), Int.add_zero]; rfl)
end Go.Proofs.Ytmjeoknamoegpaa.P
namespace Go.Proofs.Ytmjeoknamoegpaa.P
open Go.RowKit Go.Proofs.YtmjeoknamoegpaaW.PrintWords Go.Proofs.YtmjeoknamoegpaaW.PrintLast Go.Proofs.YtmjeoknamoegpaaW.PrintMore
set_option linter.unusedVariables false
set_option linter.unusedSimpArgs false
theorem cloneI_eq (l : List Int) (h : l.length ≤ 1000000) : slices_Clone_int32_int32.f l = some l := by
 unfold slices_Clone_int32_int32.f
 simp; omega
theorem copyA_eq (l : List S40) (h : l.length ≤ 1000000) : attrs_Copy.f l = some l := by
 unfold attrs_Copy.f api_Attr_50.f
 simp; omega
theorem copyC_eq (l : List S42) (h : l.length ≤ 1000000) : patch_Copy.f l = some l := by
 unfold patch_Copy.f api_Change_49.f
 simp; omega
def insertP (l : List Int) (set : List S40) (I : List S30) : List S30 :=
 match I.getLast? with
 | some o => if keyA o.f3 = keyA set then I.dropLast ++ [⟨o.f0, o.f1, o.f2 ++ l, o.f3, o.f4⟩] else I ++ [⟨2, 0, l, set, []⟩]
 | none => [⟨2, 0, l, set, []⟩]
theorem Kd.S_ok {α : Type} {d : Kd α} {e : Nat} {w : World} {base : Nat} {ok : Nat → Prop} {v : Value} {xs : List α} (h : Kd.S d e w base ok v xs) : ∀ k, v.ownBlock = some k → ok k := (Kd.S_R h).1
set_option maxHeartbeats 4000000 in
set_option maxRecDepth 100000 in
theorem insert_nil (p : Nat) (D I : List S30) (g : Int) (base : Nat) (ok : Nat → Prop) (Al : Option Addr) (cl : Nat) (l : List Int) (As : Option Addr) (cs : Nat) (set : List S40) (w : World) (hM : Mk w base ok p D I g) (hbase : base ≤ w.heap.size) (hL : Kd.C (Kd.int .i32) w Al l.length l) (hcl : l.length ≤ cl) (hS : Kd.C k40 w As set.length set) (hcs : set.length ≤ cs) (hne : 0 < l.length) (hl : l.length ≤ 1000000) (hs : set.length ≤ 1000000) (hIl : I.length ≤ 1000000) (hI0 : I = []) :
  Calls Try.prog 21 #[.pointer (some ⟨p, 0, none⟩), .slice Al l.length cl, .slice As set.length cs] w fun e w' => e = .returned (.tuple #[]) ∧ MkPost w base ok p D (I ++ [⟨2, 0, l, set, []⟩]) g w' := by
 obtain ⟨vD, vI, okD, okI, h1, h2, h3, h4, h5, h6, h7⟩ := hM.bound
 have BK := Aside0.mk h1
 have HP := Aside0.mk (blk_lt h1)
 have HD := Aside0.mk h4
 have HI := Aside0.mk h5
 have H6 : Aside0 (∀ k, okD k → base ≤ k ∧ ok k ∧ k ≠ p ∧ k < w.heap.size) := Aside0.mk (fun k hk => ⟨(h6 k hk).1, (h6 k hk).2.1.1, (h6 k hk).2.2, (h6 k hk).2.1.2⟩)
 have H7 : Aside0 (∀ k, okI k → base ≤ k ∧ ok k ∧ k ≠ p ∧ ¬ okD k ∧ k < w.heap.size) := Aside0.mk (fun k hk => ⟨(h7 k hk).1, (h7 k hk).2.1.1, (h7 k hk).2.2.1, (h7 k hk).2.2.2, (h7 k hk).2.1.2⟩)
 have H3 := Aside0.mk h3.1
 have HK := Aside0.mk (Kept.refl w ok)
 have HB := Aside0.mk (Below.refl base w)
 have HZ := Aside0.mk (Nat.le_refl w.heap.size)
 obtain ⟨Ai, ci, hvI⟩ := Kd.S_slice h5
 have c0 : w.cell? ⟨p, 1, none⟩ = some (.slice Ai 0 ci) := by simp [World.cell?, h1, hvI, hI0]
 have hlz : ((l.length : Int) == 0) = false := beq_eq_false_iff_ne.2 (by omega)
 have HL := Aside0.mk hL
 have HS := Aside0.mk hS
 clear h1 h3 h4 h5 h6 h7 hM hL hS hvI hI0
 have hl1 : (0 : Int) < l.length := by omega
 go_enter Try.func21, Try.ntmps21
 go_wp2_with fail
 refine start_ (n := 15) (S := fun w' => w'.cell? ⟨p, 1, none⟩ = some vI) (ds := [14]) #[false, false, false, false, false, false, false, false, false, false, false, false, false, false, false] (by kernel_rfl) rfl rfl ((blk_cell (w := w.drew) BK.out 1).trans rfl) (fun hHeld => ?_)
 have hb := below_drew (Below.refl w.heap.size w)
 generalize w.drew = w2 at hb hHeld ⊢
 replace BK := Aside0.mk (blk_below BK.out hb)
 replace HD := Aside0.mk (Kd.N_below HD.out hb)
 replace HI := Aside0.mk (Kd.S_below HI.out hb)
 replace HB := Aside0.mk (below_then HB.out (Nat.le_trans hbase HZ.out) hb)
 replace HK := Aside0.mk (HK.out.below hb)
 replace HZ := Aside0.mk (Nat.le_trans HZ.out hb.size)
 replace HL := Aside0.mk (Kd.C_below HL.out hb)
 replace HS := Aside0.mk (Kd.C_below HS.out hb)
 clear hb
 refine pure_ (i := 0) (N := some 51) (v := ?_) (a' := ?_) #[true, false, false, false, false, false, false, false, false, false, false, false, false, false, false] rfl rfl (any_of rfl (by kernel_rfl)) (fun _ _ _ h => h) (Or.inl ⟨by rfl, ?_⟩) ?_ ?_
 rotate_left
 ·intro w'
  go_simp
  with_reducible rfl
 rotate_left
 ·simp only [Act.put, List.setIfInBounds_toArray, List.set_cons_zero, List.set_cons_succ, i64_w, i32_w]
  rfl
 refine pure_ (i := 1) (N := some 52) (v := ?_) (a' := ?_) #[true, true, false, false, false, false, false, false, false, false, false, false, false, false, false] rfl rfl (any_of rfl (by kernel_rfl)) (fun _ _ _ h => h) (Or.inl ⟨by rfl, ?_⟩) ?_ ?_
 rotate_left
 ·intro w'
  go_simp
  with_reducible rfl
 rotate_left
 ·simp only [Act.put, List.setIfInBounds_toArray, List.set_cons_zero, List.set_cons_succ, i64_w, i32_w]
  rfl
 refine pure_ (i := 2) (N := some 53) (v := ?_) (a' := ?_) #[true, true, true, false, false, false, false, false, false, false, false, false, false, false, false] rfl rfl (any_of rfl (by kernel_rfl)) (fun _ _ _ h => h) (Or.inl ⟨by rfl, ?_⟩) ?_ ?_
 rotate_left
 ·intro w'
  go_simp
  with_reducible rfl
 rotate_left
 ·simp only [Act.put, List.setIfInBounds_toArray, List.set_cons_zero, List.set_cons_succ, i64_w, i32_w]
  rfl
 refine pure_ (i := 3) (N := some 54) (v := ?_) (a' := ?_) #[true, true, true, true, false, false, false, false, false, false, false, false, false, false, false] rfl rfl (any_of rfl (by kernel_rfl)) (fun _ _ _ h => h) (Or.inl ⟨by rfl, ?_⟩) ?_ ?_
 rotate_left
 ·intro w'
  go_simp
  with_reducible rfl
 rotate_left
 ·simp only [Act.put, List.setIfInBounds_toArray, List.set_cons_zero, List.set_cons_succ, i64_w, i32_w]
  rfl
 refine take_ (i := 4) (N := some 55) (v := ?_) (a' := ?_) #[true, true, true, true, true, false, false, false, false, false, false, false, false, false, false] rfl rfl (take_of rfl (by kernel_rfl)) (fun _ _ _ h => h) (Or.inl ⟨by rfl, ?_⟩) hHeld ?_ ?_
 rotate_left
 ·rintro w' s0
  go_simp
  with_reducible rfl
 rotate_left
 ·simp only [Act.put, List.setIfInBounds_toArray, List.set_cons_zero, List.set_cons_succ, i64_w, i32_w]
  rfl
 refine pure_ (i := 5) (N := some 56) (v := ?_) (a' := ?_) #[true, true, true, true, true, true, false, false, false, false, false, false, false, false, false] rfl rfl (any_of rfl (by kernel_rfl)) (fun _ _ _ h => h) (Or.inl ⟨by rfl, ?_⟩) ?_ ?_
 rotate_left
 ·intro w'
  go_simp
  with_reducible rfl
 rotate_left
 ·simp only [Act.put, List.setIfInBounds_toArray, List.set_cons_zero, List.set_cons_succ, i64_w, i32_w]
  rfl
 refine pure_ (i := 7) (N := some 58) (v := ?_) (a' := ?_) #[true, true, true, true, true, true, false, true, false, false, false, false, false, false, false] rfl rfl (any_of rfl (by kernel_rfl)) (fun _ _ _ h => h) (Or.inl ⟨by rfl, ?_⟩) ?_ ?_
 rotate_left
 ·intro w'
  go_simp
  with_reducible rfl
 rotate_left
 ·simp only [Act.put, List.setIfInBounds_toArray, List.set_cons_zero, List.set_cons_succ, i64_w, i32_w]
  rfl
 refine one_ (i := 6) (N := some 57) #[true, true, true, true, true, true, true, true, false, false, false, false, false, false, false] rfl rfl (one_of rfl (by kernel_rfl)) (by decide) (fun K hK => ?_)
 refine goes_ Try.func37 (by kernel_rfl) rfl #[.slice Al l.length cl] (by rfl) rfl rfl (by (try simp only [List.map_toArray, List.map_cons, List.map_nil]); first | done | rfl) ?_
 refine (slices_Clone_int32_int32.calls Al cl l l _ HL.out hcl (cloneI_eq l hl)).mono ?_
 rintro e w3 ⟨v1, rfl, hv1, hb⟩
 have V1 := Aside0.mk (Kd.R_mono (Kd.R_lower (Kd.R_bound hv1) (Nat.le_trans hbase HZ.out)) (fun k hk => (⟨Nat.le_trans HZ.out hk.2.1, hk.2.2.1⟩ : w.heap.size ≤ k ∧ k < w3.heap.size)))
 replace BK := Aside0.mk (blk_below BK.out hb)
 replace HD := Aside0.mk (Kd.N_below HD.out hb)
 replace HI := Aside0.mk (Kd.S_below HI.out hb)
 replace HB := Aside0.mk (below_then HB.out (Nat.le_trans hbase HZ.out) hb)
 replace HK := Aside0.mk (HK.out.below hb)
 replace HZ := Aside0.mk (Nat.le_trans HZ.out hb.size)
 replace HS := Aside0.mk (Kd.C_below HS.out hb)
 clear hv1 hb
 refine ⟨_, rfl, ?_⟩
 refine hK.out _ _ ((blk_cell BK.out 1).trans rfl) (fun hHeld => ?_)
 clear hK K
 refine norm_ (a' := ?_) ?_ ?_
 rotate_left
 ·show Act.put _ (some 57) _ = _
  simp only [Act.put, List.setIfInBounds_toArray, List.set_cons_zero, List.set_cons_succ, i64_w, i32_w]
  rfl
 refine one_ (i := 8) (N := some 59) #[true, true, true, true, true, true, true, true, true, false, false, false, false, false, false] rfl rfl (one_of rfl (by kernel_rfl)) (by decide) (fun K hK => ?_)
 refine goes_ Try.func38 (by kernel_rfl) rfl #[.slice As set.length cs] (by rfl) rfl rfl (by (try simp only [List.map_toArray, List.map_cons, List.map_nil]); first | done | rfl) ?_
 refine (attrs_Copy.calls As cs set set _ HS.out hcs (copyA_eq set hs)).mono ?_
 rintro e w4 ⟨v2, rfl, hv2, hb⟩
 have V2 := Aside0.mk (Kd.R_mono (Kd.R_lower (Kd.R_bound hv2) (Nat.le_trans hbase HZ.out)) (fun k hk => (⟨Nat.le_trans HZ.out hk.2.1, hk.2.2.1⟩ : w.heap.size ≤ k ∧ k < w4.heap.size)))
 replace BK := Aside0.mk (blk_below BK.out hb)
 replace HD := Aside0.mk (Kd.N_below HD.out hb)
 replace HI := Aside0.mk (Kd.S_below HI.out hb)
 replace HB := Aside0.mk (below_then HB.out (Nat.le_trans hbase HZ.out) hb)
 replace HK := Aside0.mk (HK.out.below hb)
 replace HZ := Aside0.mk (Nat.le_trans HZ.out hb.size)
 replace V1 := Aside0.mk (Kd.R_mono (Kd.R_below V1.out hb) (fun k hk => (⟨hk.1, Nat.lt_of_lt_of_le hk.2 hb.size⟩ : w.heap.size ≤ k ∧ k < w4.heap.size)))
 clear hv2 hb
 refine ⟨_, rfl, ?_⟩
 refine hK.out _ _ ((blk_cell BK.out 1).trans rfl) (fun hHeld => ?_)
 clear hK K
 refine norm_ (a' := ?_) ?_ ?_
 rotate_left
 ·show Act.put _ (some 59) _ = _
  simp only [Act.put, List.setIfInBounds_toArray, List.set_cons_zero, List.set_cons_succ, i64_w, i32_w]
  rfl
 obtain ⟨A1, c1_, rfl⟩ := Kd.R_slice V1.out
 obtain ⟨A2, c2_, rfl⟩ := Kd.R_slice V2.out
 refine pure_ (i := 9) (N := some 60) (v := ?_) (a' := ?_) #[true, true, true, true, true, true, true, true, true, true, false, false, false, false, false] rfl rfl (any_of rfl (by kernel_rfl)) (fun _ _ _ h => h) (Or.inl ⟨by rfl, ?_⟩) ?_ ?_
 rotate_left
 ·intro w'
  go_simp
  with_reducible rfl
 rotate_left
 ·simp only [Act.put, List.setIfInBounds_toArray, List.set_cons_zero, List.set_cons_succ, i64_w, i32_w]
  rfl
 refine one_ (i := 10) (N := some 61) #[true, true, true, true, true, true, true, true, true, true, true, false, false, false, false] rfl rfl (one_of rfl (by kernel_rfl)) (by decide) (fun K hK => ?_)
 refine value_ (w1 := ?_) (v := ?_) (by rfl) rfl ?_ ?_
 rotate_left 2
 ·go_simp
  constructor
  ·rfl
  ·rfl
 refine hK.out _ _ ((blk_cell (blk_alloc BK.out _) 1).trans rfl) (fun hHeld => ?_)
 clear hK K
 refine norm_ (a' := ?_) ?_ ?_
 rotate_left
 ·show Act.put _ (some 61) _ = _
  simp only [Act.put, List.setIfInBounds_toArray, List.set_cons_zero, List.set_cons_succ, i64_w, i32_w]
  rfl
 refine one_ (i := 11) (N := some 62) #[true, true, true, true, true, true, true, true, true, true, true, true, false, false, false] rfl rfl (one_of rfl (by kernel_rfl)) (by decide) (fun K hK => ?_)
 refine Kd.S_append_step k30 (w0 := w) base (by rfl) (.tmp 55) (.tmp 61) 23 30 (.agg #[(.int .u8 0), (.int .i64 0), (.slice none 0 0), (.slice none 0 0), (.slice none 0 0)]) 88 rfl Try.underlying23 info30 rfl (by decide) (by omega) vI I (⟨2, 0, l, set, []⟩ : S30) [.int .u8 2, .int .i64 0, .slice A1 l.length c1_, .slice A2 set.length c2_, .slice none 0 0] (fun k => okI k ∨ w.heap.size ≤ k) (fun k => w.heap.size ≤ k ∧ k < w4.heap.size) rfl rfl ?aP ?aQ ?aF ?aO ?aB ?aS ?aL ?_
 (case aP => exact k30_mkM _ _ _ (⟨2, 0, l, set, []⟩ : S30) V1.out V2.out (Kd.R_nil _ _ _ _ _))
 (case aQ => exact fun k hk => ⟨.inr hk.1, fun e_ => by have := (H7.out k (Kd.S_ok HI.out k e_.symm)).2.2.2.2; omega⟩)
 (case aF => exact fun k hk => .inr (Nat.le_trans HZ.out hk))
 (case aO => exact Kd.S_mono HI.out (fun k hk => ⟨.inl hk, fun h_ => by have := (H7.out k hk).2.2.2.2; omega⟩))
 (case aB => exact HB.out)
 (case aS => exact Nat.le_trans hbase HZ.out)
 (case aL => omega)
 intro v3 w5 ho hb hg hat
 obtain ⟨A3, c3_, rfl⟩ := Kd.S_slice ho
 replace BK := Aside0.mk (blk_grown BK.out hg (fun e_ => (H7.out p (Kd.S_ok HI.out p e_.symm)).2.2.1 rfl))
 replace HD := Aside0.mk (Kd.N_grown HD.out hg (fun k hk e_ => (H7.out k (Kd.S_ok HI.out k e_.symm)).2.2.2.1 hk))
 replace HK := Aside0.mk (Kept.of_grown hg HK.out (fun k e_ => .inl (H7.out k (Kd.S_ok HI.out k e_)).2.1))
 replace HI := Aside0.mk ho
 replace HB := Aside0.mk hb
 clear ho hb hg hat
 refine hK.out _ _ ((blk_cell BK.out 1).trans rfl) (fun hHeld => ?_)
 clear hK K
 refine norm_ (a' := ?_) ?_ ?_
 rotate_left
 ·show Act.put _ (some 62) _ = _
  simp only [Act.put, List.setIfInBounds_toArray, List.set_cons_zero, List.set_cons_succ, i64_w, i32_w]
  rfl
 refine pure_ (i := 12) (N := some 63) (v := ?_) (a' := ?_) #[true, true, true, true, true, true, true, true, true, true, true, true, true, false, false] rfl rfl (any_of rfl (by kernel_rfl)) (fun _ _ _ h => h) (Or.inl ⟨by rfl, ?_⟩) ?_ ?_
 rotate_left
 ·intro w'
  go_simp
  with_reducible rfl
 rotate_left
 ·simp only [Act.put, List.setIfInBounds_toArray, List.set_cons_zero, List.set_cons_succ, i64_w, i32_w]
  rfl
 refine pure_ (i := 13) (N := some 64) (v := ?_) (a' := ?_) #[true, true, true, true, true, true, true, true, true, true, true, true, true, true, false] rfl rfl (any_of rfl (by kernel_rfl)) (fun _ _ _ h => h) (Or.inl ⟨by rfl, ?_⟩) ?_ ?_
 rotate_left
 ·intro w'
  go_simp
  with_reducible rfl
 rotate_left
 ·simp only [Act.put, List.setIfInBounds_toArray, List.set_cons_zero, List.set_cons_succ, i64_w, i32_w]
  rfl
 refine last_ (i := 14) (N := none) #[true, true, true, true, true, true, true, true, true, true, true, true, true, true, true] rfl rfl (one_of rfl (by kernel_rfl)) (by decide) (fun K hK => ?_)
 have c1 : w5.cell? ⟨p, 1, none⟩ = some vI := (blk_cell BK.out 1).trans rfl
 have f1 := blk_frozen BK.out 1
 refine skip_ (w1 := w5.setCell ⟨p, 1, none⟩ (.slice A3 (I ++ [(⟨2, 0, l, set, []⟩ : S30)]).length c3_)) (by rfl) rfl ?_ ?_
 ·go_simp
  try rfl
 refine hK.out _ _ ?_
 clear hK K
 refine done_ (done_of rfl (by kernel_rfl)) ?_
 go_wp2
 go_end0
 refine ⟨rfl, ⟨vD, _, okD, fun k => okI k ∨ w.heap.size ≤ k, blk_put BK.out 1 _ rfl, h2, .inl H3.out, Kd.N_far HD.out (p := ⟨p, 1, none⟩) (fun k hk => (H6.out k hk).2.2.1) _, Kd.S_far HI.out (p := ⟨p, 1, none⟩) (fun k hk => hk.elim (fun h_ => (H7.out k h_).2.2.1) (fun h_ e_ => by have := HP.out; have e2_ : k = p := e_; omega)) _, fun k hk => ⟨(H6.out k hk).1, .inl (H6.out k hk).2.1, (H6.out k hk).2.2.1⟩, fun k hk => hk.elim (fun h_ => ⟨(H7.out k h_).1, .inl (H7.out k h_).2.1, (H7.out k h_).2.2.1, (H7.out k h_).2.2.2.1⟩) (fun h_ => ⟨by omega, .inr h_, fun e_ => by have := HP.out; omega, fun hd => by have := (H6.out k hd).2.2.2; omega⟩)⟩, HK.out.setCell (p := ⟨p, 1, none⟩) (.inl H3.out) _, HB.out.setCell (p := ⟨p, 1, none⟩) h2 _⟩
set_option maxHeartbeats 4000000 in
set_option maxRecDepth 100000 in
theorem insert_new (p : Nat) (D I : List S30) (g : Int) (base : Nat) (ok : Nat → Prop) (Al : Option Addr) (cl : Nat) (l : List Int) (As : Option Addr) (cs : Nat) (set : List S40) (w : World) (hM : Mk w base ok p D I g) (hbase : base ≤ w.heap.size) (hL : Kd.C (Kd.int .i32) w Al l.length l) (hcl : l.length ≤ cl) (hS : Kd.C k40 w As set.length set) (hcs : set.length ≤ cs) (hne : 0 < l.length) (hl : l.length ≤ 1000000) (hs : set.length ≤ 1000000) (hIl : I.length ≤ 1000000) (m : Nat) (o : S30) (hIm : I.length = m + 1) (ho : I[m]? = some o) (hdiff : keyA o.f3 ≠ keyA set) :
  Calls Try.prog 21 #[.pointer (some ⟨p, 0, none⟩), .slice Al l.length cl, .slice As set.length cs] w fun e w' => e = .returned (.tuple #[]) ∧ MkPost w base ok p D (I ++ [⟨2, 0, l, set, []⟩]) g w' := by
 obtain ⟨vD, vI, okD, okI, h1, h2, h3, h4, h5, h6, h7⟩ := hM.bound
 have BK := Aside0.mk h1
 have HP := Aside0.mk (blk_lt h1)
 have HD := Aside0.mk h4
 have HI := Aside0.mk h5
 have H6 : Aside0 (∀ k, okD k → base ≤ k ∧ ok k ∧ k ≠ p ∧ k < w.heap.size) := Aside0.mk (fun k hk => ⟨(h6 k hk).1, (h6 k hk).2.1.1, (h6 k hk).2.2, (h6 k hk).2.1.2⟩)
 have H7 : Aside0 (∀ k, okI k → base ≤ k ∧ ok k ∧ k ≠ p ∧ ¬ okD k ∧ k < w.heap.size) := Aside0.mk (fun k hk => ⟨(h7 k hk).1, (h7 k hk).2.1.1, (h7 k hk).2.2.1, (h7 k hk).2.2.2, (h7 k hk).2.1.2⟩)
 have H3 := Aside0.mk h3.1
 have HK := Aside0.mk (Kept.refl w ok)
 have HB := Aside0.mk (Below.refl base w)
 have HZ := Aside0.mk (Nat.le_refl w.heap.size)
 obtain ⟨gI, capI, hvI, hgb, hgl, _, _⟩ := Kd.S_form h5 (by omega)
 subst hvI
 rw [hIm] at h5
 obtain ⟨oki0, ce0, _, hM0, hcc0, _, _, _⟩ := Kd.S_elem h5 z30 (m : Int) (by omega) (by omega)
 have hgetD : I.getD (m : Int).toNat z30 = o := by rw [Int.toNat_natCast, List.getD_eq_getElem?_getD, ho]; rfl
 rw [hgetD] at hM0
 obtain ⟨v2, v3, v4, rfl, hr2, hr3, hr4⟩ := k30_openM hM0
 obtain ⟨A2, c2, rfl⟩ := Kd.R_slice hr2
 obtain ⟨A3, c3, rfl⟩ := Kd.R_slice hr3
 have e2 : w.cell? ⟨gI, m * 5 + 2, none⟩ = some (.slice A2 o.f2.length c2) := hcc0 2 _ rfl
 have e3 : w.cell? ⟨gI, m * 5 + 3, none⟩ = some (.slice A3 o.f3.length c3) := hcc0 3 _ rfl
 have E2 := Aside0.mk e2
 have R3 := Aside0.mk (Kd.R_reads' hr3)
 have HG := Aside0.mk hgl
 have c0 : w.cell? ⟨p, 1, none⟩ = some (.slice (some ⟨gI, 0, none⟩) (m + 1) capI) := by rw [← hIm]; simp [World.cell?, h1]
 rw [hIm] at BK HI
 have hlz : ((l.length : Int) == 0) = false := beq_eq_false_iff_ne.2 (by omega)
 have HL := Aside0.mk hL
 have HS := Aside0.mk hS
 have HDF := Aside0.mk hdiff
 have HO_ := Aside0.mk ho
 have HIM := Aside0.mk hIm
 clear h1 h3 h4 h5 h6 h7 hM hL hS hcc0 hM0 hr2 hr3 hr4 e2 hdiff hgetD ho
 have hm1 : m + 1 ≤ 1000000 := by omega
 have HGI := Aside0.mk (Kd.S_ok HI.out gI (by simp [Value.ownBlock]))
 go_enter Try.func21, Try.ntmps21
 go_wp2_with fail
 go_at_call 29
 refine (equalA_calls A3 c3 o.f3 As cs set w R3.out.2.2 R3.out.2.1 HS.out hcs).mono ?_
 rintro e w1 ⟨he, hb⟩
 rw [eqB_false.2 HDF.out] at he
 subst he
 replace BK := Aside0.mk (blk_below BK.out hb)
 replace HD := Aside0.mk (Kd.N_below HD.out hb)
 replace HI := Aside0.mk (Kd.S_below HI.out hb)
 replace HB := Aside0.mk (below_then HB.out (Nat.le_trans hbase HZ.out) hb)
 replace HK := Aside0.mk (HK.out.below hb)
 replace HZ := Aside0.mk (Nat.le_trans HZ.out hb.size)
 replace HL := Aside0.mk (Kd.C_below HL.out hb)
 replace HS := Aside0.mk (Kd.C_below HS.out hb)
 replace E2 := Aside0.mk ((hb.cell (World.block_lt_of_cell? _ _ E2.out)).trans E2.out)
 clear hb c0 e3
 go_wp2_with fail
 refine start_ (n := 15) (S := fun w' => w'.cell? ⟨p, 1, none⟩ = some (.slice (some ⟨gI, 0, none⟩) (m + 1) capI)) (ds := [14]) #[false, false, false, false, false, false, false, false, false, false, false, false, false, false, false] (by kernel_rfl) rfl rfl ((blk_cell (w := w1.drew) BK.out 1).trans rfl) (fun hHeld => ?_)
 have hb := below_drew (Below.refl w1.heap.size w1)
 generalize w1.drew = w2 at hb hHeld ⊢
 replace BK := Aside0.mk (blk_below BK.out hb)
 replace HD := Aside0.mk (Kd.N_below HD.out hb)
 replace HI := Aside0.mk (Kd.S_below HI.out hb)
 replace HB := Aside0.mk (below_then HB.out (Nat.le_trans hbase HZ.out) hb)
 replace HK := Aside0.mk (HK.out.below hb)
 replace HZ := Aside0.mk (Nat.le_trans HZ.out hb.size)
 replace HL := Aside0.mk (Kd.C_below HL.out hb)
 replace HS := Aside0.mk (Kd.C_below HS.out hb)
 clear hb
 refine pure_ (i := 0) (N := some 51) (v := ?_) (a' := ?_) #[true, false, false, false, false, false, false, false, false, false, false, false, false, false, false] rfl rfl (any_of rfl (by kernel_rfl)) (fun _ _ _ h => h) (Or.inl ⟨by rfl, ?_⟩) ?_ ?_
 rotate_left
 ·intro w'
  go_simp
  with_reducible rfl
 rotate_left
 ·simp only [Act.put, List.setIfInBounds_toArray, List.set_cons_zero, List.set_cons_succ, i64_w, i32_w]
  rfl
 refine pure_ (i := 1) (N := some 52) (v := ?_) (a' := ?_) #[true, true, false, false, false, false, false, false, false, false, false, false, false, false, false] rfl rfl (any_of rfl (by kernel_rfl)) (fun _ _ _ h => h) (Or.inl ⟨by rfl, ?_⟩) ?_ ?_
 rotate_left
 ·intro w'
  go_simp
  with_reducible rfl
 rotate_left
 ·simp only [Act.put, List.setIfInBounds_toArray, List.set_cons_zero, List.set_cons_succ, i64_w, i32_w]
  rfl
 refine pure_ (i := 2) (N := some 53) (v := ?_) (a' := ?_) #[true, true, true, false, false, false, false, false, false, false, false, false, false, false, false] rfl rfl (any_of rfl (by kernel_rfl)) (fun _ _ _ h => h) (Or.inl ⟨by rfl, ?_⟩) ?_ ?_
 rotate_left
 ·intro w'
  go_simp
  with_reducible rfl
 rotate_left
 ·simp only [Act.put, List.setIfInBounds_toArray, List.set_cons_zero, List.set_cons_succ, i64_w, i32_w]
  rfl
 refine pure_ (i := 3) (N := some 54) (v := ?_) (a' := ?_) #[true, true, true, true, false, false, false, false, false, false, false, false, false, false, false] rfl rfl (any_of rfl (by kernel_rfl)) (fun _ _ _ h => h) (Or.inl ⟨by rfl, ?_⟩) ?_ ?_
 rotate_left
 ·intro w'
  go_simp
  with_reducible rfl
 rotate_left
 ·simp only [Act.put, List.setIfInBounds_toArray, List.set_cons_zero, List.set_cons_succ, i64_w, i32_w]
  rfl
 refine take_ (i := 4) (N := some 55) (v := ?_) (a' := ?_) #[true, true, true, true, true, false, false, false, false, false, false, false, false, false, false] rfl rfl (take_of rfl (by kernel_rfl)) (fun _ _ _ h => h) (Or.inl ⟨by rfl, ?_⟩) hHeld ?_ ?_
 rotate_left
 ·rintro w' s0
  go_simp
  with_reducible rfl
 rotate_left
 ·simp only [Act.put, List.setIfInBounds_toArray, List.set_cons_zero, List.set_cons_succ, i64_w, i32_w]
  rfl
 refine pure_ (i := 5) (N := some 56) (v := ?_) (a' := ?_) #[true, true, true, true, true, true, false, false, false, false, false, false, false, false, false] rfl rfl (any_of rfl (by kernel_rfl)) (fun _ _ _ h => h) (Or.inl ⟨by rfl, ?_⟩) ?_ ?_
 rotate_left
 ·intro w'
  go_simp
  with_reducible rfl
 rotate_left
 ·simp only [Act.put, List.setIfInBounds_toArray, List.set_cons_zero, List.set_cons_succ, i64_w, i32_w]
  rfl
 refine pure_ (i := 7) (N := some 58) (v := ?_) (a' := ?_) #[true, true, true, true, true, true, false, true, false, false, false, false, false, false, false] rfl rfl (any_of rfl (by kernel_rfl)) (fun _ _ _ h => h) (Or.inl ⟨by rfl, ?_⟩) ?_ ?_
 rotate_left
 ·intro w'
  go_simp
  with_reducible rfl
 rotate_left
 ·simp only [Act.put, List.setIfInBounds_toArray, List.set_cons_zero, List.set_cons_succ, i64_w, i32_w]
  rfl
 refine one_ (i := 6) (N := some 57) #[true, true, true, true, true, true, true, true, false, false, false, false, false, false, false] rfl rfl (one_of rfl (by kernel_rfl)) (by decide) (fun K hK => ?_)
 refine goes_ Try.func37 (by kernel_rfl) rfl #[.slice Al l.length cl] (by rfl) rfl rfl (by (try simp only [List.map_toArray, List.map_cons, List.map_nil]); first | done | rfl) ?_
 refine (slices_Clone_int32_int32.calls Al cl l l _ HL.out hcl (cloneI_eq l hl)).mono ?_
 rintro e w3 ⟨v1, rfl, hv1, hb⟩
 have V1 := Aside0.mk (Kd.R_mono (Kd.R_lower (Kd.R_bound hv1) (Nat.le_trans hbase HZ.out)) (fun k hk => (⟨Nat.le_trans HZ.out hk.2.1, hk.2.2.1⟩ : w.heap.size ≤ k ∧ k < w3.heap.size)))
 replace BK := Aside0.mk (blk_below BK.out hb)
 replace HD := Aside0.mk (Kd.N_below HD.out hb)
 replace HI := Aside0.mk (Kd.S_below HI.out hb)
 replace HB := Aside0.mk (below_then HB.out (Nat.le_trans hbase HZ.out) hb)
 replace HK := Aside0.mk (HK.out.below hb)
 replace HZ := Aside0.mk (Nat.le_trans HZ.out hb.size)
 replace HS := Aside0.mk (Kd.C_below HS.out hb)
 clear hv1 hb
 refine ⟨_, rfl, ?_⟩
 refine hK.out _ _ ((blk_cell BK.out 1).trans rfl) (fun hHeld => ?_)
 clear hK K
 refine norm_ (a' := ?_) ?_ ?_
 rotate_left
 ·show Act.put _ (some 57) _ = _
  simp only [Act.put, List.setIfInBounds_toArray, List.set_cons_zero, List.set_cons_succ, i64_w, i32_w]
  rfl
 refine one_ (i := 8) (N := some 59) #[true, true, true, true, true, true, true, true, true, false, false, false, false, false, false] rfl rfl (one_of rfl (by kernel_rfl)) (by decide) (fun K hK => ?_)
 refine goes_ Try.func38 (by kernel_rfl) rfl #[.slice As set.length cs] (by rfl) rfl rfl (by (try simp only [List.map_toArray, List.map_cons, List.map_nil]); first | done | rfl) ?_
 refine (attrs_Copy.calls As cs set set _ HS.out hcs (copyA_eq set hs)).mono ?_
 rintro e w4 ⟨v2, rfl, hv2, hb⟩
 have V2 := Aside0.mk (Kd.R_mono (Kd.R_lower (Kd.R_bound hv2) (Nat.le_trans hbase HZ.out)) (fun k hk => (⟨Nat.le_trans HZ.out hk.2.1, hk.2.2.1⟩ : w.heap.size ≤ k ∧ k < w4.heap.size)))
 replace BK := Aside0.mk (blk_below BK.out hb)
 replace HD := Aside0.mk (Kd.N_below HD.out hb)
 replace HI := Aside0.mk (Kd.S_below HI.out hb)
 replace HB := Aside0.mk (below_then HB.out (Nat.le_trans hbase HZ.out) hb)
 replace HK := Aside0.mk (HK.out.below hb)
 replace HZ := Aside0.mk (Nat.le_trans HZ.out hb.size)
 replace V1 := Aside0.mk (Kd.R_mono (Kd.R_below V1.out hb) (fun k hk => (⟨hk.1, Nat.lt_of_lt_of_le hk.2 hb.size⟩ : w.heap.size ≤ k ∧ k < w4.heap.size)))
 clear hv2 hb
 refine ⟨_, rfl, ?_⟩
 refine hK.out _ _ ((blk_cell BK.out 1).trans rfl) (fun hHeld => ?_)
 clear hK K
 refine norm_ (a' := ?_) ?_ ?_
 rotate_left
 ·show Act.put _ (some 59) _ = _
  simp only [Act.put, List.setIfInBounds_toArray, List.set_cons_zero, List.set_cons_succ, i64_w, i32_w]
  rfl
 obtain ⟨A1, c1_, rfl⟩ := Kd.R_slice V1.out
 obtain ⟨A2, c2_, rfl⟩ := Kd.R_slice V2.out
 refine pure_ (i := 9) (N := some 60) (v := ?_) (a' := ?_) #[true, true, true, true, true, true, true, true, true, true, false, false, false, false, false] rfl rfl (any_of rfl (by kernel_rfl)) (fun _ _ _ h => h) (Or.inl ⟨by rfl, ?_⟩) ?_ ?_
 rotate_left
 ·intro w'
  go_simp
  with_reducible rfl
 rotate_left
 ·simp only [Act.put, List.setIfInBounds_toArray, List.set_cons_zero, List.set_cons_succ, i64_w, i32_w]
  rfl
 refine one_ (i := 10) (N := some 61) #[true, true, true, true, true, true, true, true, true, true, true, false, false, false, false] rfl rfl (one_of rfl (by kernel_rfl)) (by decide) (fun K hK => ?_)
 refine value_ (w1 := ?_) (v := ?_) (by rfl) rfl ?_ ?_
 rotate_left 2
 ·go_simp
  constructor
  ·rfl
  ·rfl
 refine hK.out _ _ ((blk_cell (blk_alloc BK.out _) 1).trans rfl) (fun hHeld => ?_)
 clear hK K
 refine norm_ (a' := ?_) ?_ ?_
 rotate_left
 ·show Act.put _ (some 61) _ = _
  simp only [Act.put, List.setIfInBounds_toArray, List.set_cons_zero, List.set_cons_succ, i64_w, i32_w]
  rfl
 refine one_ (i := 11) (N := some 62) #[true, true, true, true, true, true, true, true, true, true, true, true, false, false, false] rfl rfl (one_of rfl (by kernel_rfl)) (by decide) (fun K hK => ?_)
 refine Kd.S_append_step k30 (w0 := w) base (by rfl) (.tmp 55) (.tmp 61) 23 30 (.agg #[(.int .u8 0), (.int .i64 0), (.slice none 0 0), (.slice none 0 0), (.slice none 0 0)]) 88 rfl Try.underlying23 info30 rfl (by decide) (by omega) (.slice (some ⟨gI, 0, none⟩) (m + 1) capI) I (⟨2, 0, l, set, []⟩ : S30) [.int .u8 2, .int .i64 0, .slice A1 l.length c1_, .slice A2 set.length c2_, .slice none 0 0] (fun k => okI k ∨ w.heap.size ≤ k) (fun k => w.heap.size ≤ k ∧ k < w4.heap.size) rfl rfl ?aP ?aQ ?aF ?aO ?aB ?aS ?aL ?_
 (case aP => exact k30_mkM _ _ _ (⟨2, 0, l, set, []⟩ : S30) V1.out V2.out (Kd.R_nil _ _ _ _ _))
 (case aQ => exact fun k hk => ⟨.inr hk.1, fun e_ => by have := (H7.out k (Kd.S_ok HI.out k e_.symm)).2.2.2.2; omega⟩)
 (case aF => exact fun k hk => .inr (Nat.le_trans HZ.out hk))
 (case aO => exact Kd.S_mono HI.out (fun k hk => ⟨.inl hk, fun h_ => by have := (H7.out k hk).2.2.2.2; omega⟩))
 (case aB => exact HB.out)
 (case aS => exact Nat.le_trans hbase HZ.out)
 (case aL => omega)
 intro v3 w5 ho hb hg hat
 obtain ⟨A3, c3_, rfl⟩ := Kd.S_slice ho
 replace BK := Aside0.mk (blk_grown BK.out hg (fun e_ => (H7.out p (Kd.S_ok HI.out p e_.symm)).2.2.1 rfl))
 replace HD := Aside0.mk (Kd.N_grown HD.out hg (fun k hk e_ => (H7.out k (Kd.S_ok HI.out k e_.symm)).2.2.2.1 hk))
 replace HK := Aside0.mk (Kept.of_grown hg HK.out (fun k e_ => .inl (H7.out k (Kd.S_ok HI.out k e_)).2.1))
 replace HI := Aside0.mk ho
 replace HB := Aside0.mk hb
 clear ho hb hg hat
 refine hK.out _ _ ((blk_cell BK.out 1).trans rfl) (fun hHeld => ?_)
 clear hK K
 refine norm_ (a' := ?_) ?_ ?_
 rotate_left
 ·show Act.put _ (some 62) _ = _
  simp only [Act.put, List.setIfInBounds_toArray, List.set_cons_zero, List.set_cons_succ, i64_w, i32_w]
  rfl
 refine pure_ (i := 12) (N := some 63) (v := ?_) (a' := ?_) #[true, true, true, true, true, true, true, true, true, true, true, true, true, false, false] rfl rfl (any_of rfl (by kernel_rfl)) (fun _ _ _ h => h) (Or.inl ⟨by rfl, ?_⟩) ?_ ?_
 rotate_left
 ·intro w'
  go_simp
  with_reducible rfl
 rotate_left
 ·simp only [Act.put, List.setIfInBounds_toArray, List.set_cons_zero, List.set_cons_succ, i64_w, i32_w]
  rfl
 refine pure_ (i := 13) (N := some 64) (v := ?_) (a' := ?_) #[true, true, true, true, true, true, true, true, true, true, true, true, true, true, false] rfl rfl (any_of rfl (by kernel_rfl)) (fun _ _ _ h => h) (Or.inl ⟨by rfl, ?_⟩) ?_ ?_
 rotate_left
 ·intro w'
  go_simp
  with_reducible rfl
 rotate_left
 ·simp only [Act.put, List.setIfInBounds_toArray, List.set_cons_zero, List.set_cons_succ, i64_w, i32_w]
  rfl
 refine last_ (i := 14) (N := none) #[true, true, true, true, true, true, true, true, true, true, true, true, true, true, true] rfl rfl (one_of rfl (by kernel_rfl)) (by decide) (fun K hK => ?_)
 have c1 : w5.cell? ⟨p, 1, none⟩ = some (.slice (some ⟨gI, 0, none⟩) (m + 1) capI) := (blk_cell BK.out 1).trans rfl
 have f1 := blk_frozen BK.out 1
 refine skip_ (w1 := w5.setCell ⟨p, 1, none⟩ (.slice A3 (I ++ [(⟨2, 0, l, set, []⟩ : S30)]).length c3_)) (by rfl) rfl ?_ ?_
 ·go_simp
  try rfl
 refine hK.out _ _ ?_
 clear hK K
 refine done_ (done_of rfl (by kernel_rfl)) ?_
 go_wp2
 go_end0
 refine ⟨rfl, ⟨vD, _, okD, fun k => okI k ∨ w.heap.size ≤ k, blk_put BK.out 1 _ rfl, h2, .inl H3.out, Kd.N_far HD.out (p := ⟨p, 1, none⟩) (fun k hk => (H6.out k hk).2.2.1) _, Kd.S_far HI.out (p := ⟨p, 1, none⟩) (fun k hk => hk.elim (fun h_ => (H7.out k h_).2.2.1) (fun h_ e_ => by have := HP.out; have e2_ : k = p := e_; omega)) _, fun k hk => ⟨(H6.out k hk).1, .inl (H6.out k hk).2.1, (H6.out k hk).2.2.1⟩, fun k hk => hk.elim (fun h_ => ⟨(H7.out k h_).1, .inl (H7.out k h_).2.1, (H7.out k h_).2.2.1, (H7.out k h_).2.2.2.1⟩) (fun h_ => ⟨by omega, .inr h_, fun e_ => by have := HP.out; omega, fun hd => by have := (H6.out k hd).2.2.2; omega⟩)⟩, HK.out.setCell (p := ⟨p, 1, none⟩) (.inl H3.out) _, HB.out.setCell (p := ⟨p, 1, none⟩) h2 _⟩
set_option maxHeartbeats 4000000 in
set_option maxRecDepth 100000 in
theorem insert_same (p : Nat) (D I : List S30) (g : Int) (base : Nat) (ok : Nat → Prop) (Al : Option Addr) (cl : Nat) (l : List Int) (As : Option Addr) (cs : Nat) (set : List S40) (w : World) (hM : Mk w base ok p D I g) (hbase : base ≤ w.heap.size) (hL : Kd.C (Kd.int .i32) w Al l.length l) (hcl : l.length ≤ cl) (hS : Kd.C k40 w As set.length set) (hcs : set.length ≤ cs) (hne : 0 < l.length) (hl : l.length ≤ 1000000) (hs : set.length ≤ 1000000) (hIl : I.length ≤ 1000000) (m : Nat) (o : S30) (hIm : I.length = m + 1) (ho : I[m]? = some o) (hdiff : keyA o.f3 = keyA set) (hol : o.f2.length ≤ 1000000) :
  Calls Try.prog 21 #[.pointer (some ⟨p, 0, none⟩), .slice Al l.length cl, .slice As set.length cs] w fun e w' => e = .returned (.tuple #[]) ∧ MkPost w base ok p D (I.set (m : Int).toNat ⟨o.f0, o.f1, o.f2 ++ l, o.f3, o.f4⟩) g w' := by
 obtain ⟨vD, vI, okD, okI, h1, h2, h3, h4, h5, h6, h7⟩ := hM.bound
 have BK := Aside0.mk h1
 have HP := Aside0.mk (blk_lt h1)
 have HD := Aside0.mk h4
 have HI := Aside0.mk h5
 have H6 : Aside0 (∀ k, okD k → base ≤ k ∧ ok k ∧ k ≠ p ∧ k < w.heap.size) := Aside0.mk (fun k hk => ⟨(h6 k hk).1, (h6 k hk).2.1.1, (h6 k hk).2.2, (h6 k hk).2.1.2⟩)
 have H7 : Aside0 (∀ k, okI k → base ≤ k ∧ ok k ∧ k ≠ p ∧ ¬ okD k ∧ k < w.heap.size) := Aside0.mk (fun k hk => ⟨(h7 k hk).1, (h7 k hk).2.1.1, (h7 k hk).2.2.1, (h7 k hk).2.2.2, (h7 k hk).2.1.2⟩)
 have H3 := Aside0.mk h3.1
 have HK := Aside0.mk (Kept.refl w ok)
 have HB := Aside0.mk (Below.refl base w)
 have HZ := Aside0.mk (Nat.le_refl w.heap.size)
 obtain ⟨gI, capI, hvI, hgb, hgl, _, _⟩ := Kd.S_form h5 (by omega)
 subst hvI
 rw [hIm] at h5
 obtain ⟨oki0, ce0, _, hM0, hcc0, _, _, _⟩ := Kd.S_elem h5 z30 (m : Int) (by omega) (by omega)
 have hgetD : I.getD (m : Int).toNat z30 = o := by rw [Int.toNat_natCast, List.getD_eq_getElem?_getD, ho]; rfl
 rw [hgetD] at hM0
 obtain ⟨v2, v3, v4, rfl, hr2, hr3, hr4⟩ := k30_openM hM0
 obtain ⟨A2, c2, rfl⟩ := Kd.R_slice hr2
 obtain ⟨A3, c3, rfl⟩ := Kd.R_slice hr3
 have e2 : w.cell? ⟨gI, m * 5 + 2, none⟩ = some (.slice A2 o.f2.length c2) := hcc0 2 _ rfl
 have e3 : w.cell? ⟨gI, m * 5 + 3, none⟩ = some (.slice A3 o.f3.length c3) := hcc0 3 _ rfl
 have E2 := Aside0.mk e2
 have R3 := Aside0.mk (Kd.R_reads' hr3)
 have HG := Aside0.mk hgl
 have c0 : w.cell? ⟨p, 1, none⟩ = some (.slice (some ⟨gI, 0, none⟩) (m + 1) capI) := by rw [← hIm]; simp [World.cell?, h1]
 rw [hIm] at BK HI
 have hlz : ((l.length : Int) == 0) = false := beq_eq_false_iff_ne.2 (by omega)
 have HL := Aside0.mk hL
 have HS := Aside0.mk hS
 have HDF := Aside0.mk hdiff
 have HO_ := Aside0.mk ho
 have HIM := Aside0.mk hIm
 clear h1 h3 h4 h5 h6 h7 hM hL hS hcc0 hM0 hr2 hr3 hr4 e2 hdiff hgetD ho
 have hm1 : m + 1 ≤ 1000000 := by omega
 have HGI := Aside0.mk (Kd.S_ok HI.out gI (by simp [Value.ownBlock]))
 go_enter Try.func21, Try.ntmps21
 go_wp2_with fail
 go_at_call 29
 refine (equalA_calls A3 c3 o.f3 As cs set w R3.out.2.2 R3.out.2.1 HS.out hcs).mono ?_
 rintro e w1 ⟨he, hb⟩
 rw [eqB_true.2 HDF.out] at he
 subst he
 replace BK := Aside0.mk (blk_below BK.out hb)
 replace HD := Aside0.mk (Kd.N_below HD.out hb)
 replace HI := Aside0.mk (Kd.S_below HI.out hb)
 replace HB := Aside0.mk (below_then HB.out (Nat.le_trans hbase HZ.out) hb)
 replace HK := Aside0.mk (HK.out.below hb)
 replace HZ := Aside0.mk (Nat.le_trans HZ.out hb.size)
 replace HL := Aside0.mk (Kd.C_below HL.out hb)
 replace HS := Aside0.mk (Kd.C_below HS.out hb)
 replace E2 := Aside0.mk ((hb.cell (World.block_lt_of_cell? _ _ E2.out)).trans E2.out)
 clear hb c0 e3
 go_wp2_with fail
 refine start_ (n := 18) (S := fun w' => w'.cell? ⟨p, 1, none⟩ = some (.slice (some ⟨gI, 0, none⟩) (m + 1) capI) ∧ w'.cell? ⟨gI, m * 5 + 2, none⟩ = some (.slice A2 o.f2.length c2)) (ds := [17]) #[false, false, false, false, false, false, false, false, false, false, false, false, false, false, false, false, false, false] (by kernel_rfl) rfl rfl ⟨((blk_cell (w := w1.drew) BK.out 1).trans rfl), E2.out⟩ (fun hHeld => ?_)
 have hb := below_drew (Below.refl w1.heap.size w1)
 generalize w1.drew = w2 at hb hHeld ⊢
 replace BK := Aside0.mk (blk_below BK.out hb)
 replace HD := Aside0.mk (Kd.N_below HD.out hb)
 replace HI := Aside0.mk (Kd.S_below HI.out hb)
 replace HB := Aside0.mk (below_then HB.out (Nat.le_trans hbase HZ.out) hb)
 replace HK := Aside0.mk (HK.out.below hb)
 replace HZ := Aside0.mk (Nat.le_trans HZ.out hb.size)
 replace HL := Aside0.mk (Kd.C_below HL.out hb)
 replace HS := Aside0.mk (Kd.C_below HS.out hb)
 replace E2 := Aside0.mk ((hb.cell (World.block_lt_of_cell? _ _ E2.out)).trans E2.out)
 clear hb
 have q0 : (0 : Int) ≤ (m : Int) := Int.natCast_nonneg m
 have q1 : (m : Int) < (m : Int) + 1 := by omega
 refine pure_ (i := 0) (N := some 34) (v := ?_) (a' := ?_) #[true, false, false, false, false, false, false, false, false, false, false, false, false, false, false, false, false, false] rfl rfl (any_of rfl (by kernel_rfl)) (fun _ _ _ h => h) (Or.inl ⟨by rfl, ?_⟩) ?_ ?_
 rotate_left
 ·intro w'
  go_simp
  with_reducible rfl
 rotate_left
 ·simp only [Act.put, List.setIfInBounds_toArray, List.set_cons_zero, List.set_cons_succ, i64_w, i32_w]
  rfl
 refine pure_ (i := 1) (N := some 35) (v := ?_) (a' := ?_) #[true, true, false, false, false, false, false, false, false, false, false, false, false, false, false, false, false, false] rfl rfl (any_of rfl (by kernel_rfl)) (fun _ _ _ h => h) (Or.inl ⟨by rfl, ?_⟩) ?_ ?_
 rotate_left
 ·intro w'
  go_simp
  with_reducible rfl
 rotate_left
 ·simp only [Act.put, List.setIfInBounds_toArray, List.set_cons_zero, List.set_cons_succ, i64_w, i32_w]
  rfl
 refine pure_ (i := 2) (N := some 36) (v := ?_) (a' := ?_) #[true, true, true, false, false, false, false, false, false, false, false, false, false, false, false, false, false, false] rfl rfl (any_of rfl (by kernel_rfl)) (fun _ _ _ h => h) (Or.inl ⟨by rfl, ?_⟩) ?_ ?_
 rotate_left
 ·intro w'
  go_simp
  with_reducible rfl
 rotate_left
 ·simp only [Act.put, List.setIfInBounds_toArray, List.set_cons_zero, List.set_cons_succ, i64_w, i32_w]
  rfl
 refine pure_ (i := 4) (N := some 38) (v := ?_) (a' := ?_) #[true, true, true, false, true, false, false, false, false, false, false, false, false, false, false, false, false, false] rfl rfl (any_of rfl (by kernel_rfl)) (fun _ _ _ h => h) (Or.inl ⟨by rfl, ?_⟩) ?_ ?_
 rotate_left
 ·intro w'
  go_simp
  with_reducible rfl
 rotate_left
 ·simp only [Act.put, List.setIfInBounds_toArray, List.set_cons_zero, List.set_cons_succ, i64_w, i32_w]
  rfl
 refine pure_ (i := 5) (N := some 39) (v := ?_) (a' := ?_) #[true, true, true, false, true, true, false, false, false, false, false, false, false, false, false, false, false, false] rfl rfl (any_of rfl (by kernel_rfl)) (fun _ _ _ h => h) (Or.inl ⟨by rfl, ?_⟩) ?_ ?_
 rotate_left
 ·intro w'
  go_simp
  with_reducible rfl
 rotate_left
 ·simp only [Act.put, List.setIfInBounds_toArray, List.set_cons_zero, List.set_cons_succ, i64_w, i32_w]
  rfl
 refine pure_ (i := 6) (N := some 40) (v := ?_) (a' := ?_) #[true, true, true, false, true, true, true, false, false, false, false, false, false, false, false, false, false, false] rfl rfl (any_of rfl (by kernel_rfl)) (fun _ _ _ h => h) (Or.inl ⟨by rfl, ?_⟩) ?_ ?_
 rotate_left
 ·intro w'
  go_simp
  with_reducible rfl
 rotate_left
 ·simp only [Act.put, List.setIfInBounds_toArray, List.set_cons_zero, List.set_cons_succ, i64_w, i32_w]
  rfl
 refine pure_ (i := 7) (N := some 41) (v := ?_) (a' := ?_) #[true, true, true, false, true, true, true, true, false, false, false, false, false, false, false, false, false, false] rfl rfl (any_of rfl (by kernel_rfl)) (fun _ _ _ h => h) (Or.inl ⟨by rfl, ?_⟩) ?_ ?_
 rotate_left
 ·intro w'
  go_simp
  with_reducible rfl
 rotate_left
 ·simp only [Act.put, List.setIfInBounds_toArray, List.set_cons_zero, List.set_cons_succ, i64_w, i32_w]
  rfl
 refine pure_ (i := 9) (N := some 43) (v := ?_) (a' := ?_) #[true, true, true, false, true, true, true, true, false, true, false, false, false, false, false, false, false, false] rfl rfl (any_of rfl (by kernel_rfl)) (fun _ _ _ h => h) (Or.inl ⟨by rfl, ?_⟩) ?_ ?_
 rotate_left
 ·intro w'
  go_simp
  with_reducible rfl
 rotate_left
 ·simp only [Act.put, List.setIfInBounds_toArray, List.set_cons_zero, List.set_cons_succ, i64_w, i32_w]
  rfl
 refine pure_ (i := 13) (N := some 47) (v := ?_) (a' := ?_) #[true, true, true, false, true, true, true, true, false, true, false, false, false, true, false, false, false, false] rfl rfl (any_of rfl (by kernel_rfl)) (fun _ _ _ h => h) (Or.inl ⟨by rfl, ?_⟩) ?_ ?_
 rotate_left
 ·intro w'
  go_simp
  with_reducible rfl
 rotate_left
 ·simp only [Act.put, List.setIfInBounds_toArray, List.set_cons_zero, List.set_cons_succ, i64_w, i32_w]
  rfl
 refine take_ (i := 3) (N := some 37) (v := ?_) (a' := ?_) #[true, true, true, true, true, true, true, true, false, true, false, false, false, true, false, false, false, false] rfl rfl (take_of rfl (by kernel_rfl)) (fun _ _ _ h => h) (Or.inl ⟨by rfl, ?_⟩) hHeld ?_ ?_
 rotate_left
 ·rintro w' ⟨s0, s1⟩
  go_simp
  with_reducible rfl
 rotate_left
 ·simp only [Act.put, List.setIfInBounds_toArray, List.set_cons_zero, List.set_cons_succ, i64_w, i32_w]
  rfl
 refine take_ (i := 8) (N := some 42) (v := ?_) (a' := ?_) #[true, true, true, true, true, true, true, true, true, true, false, false, false, true, false, false, false, false] rfl rfl (take_of rfl (by kernel_rfl)) (fun _ _ _ h => h) (Or.inl ⟨by rfl, ?_⟩) hHeld ?_ ?_
 rotate_left
 ·rintro w' ⟨s0, s1⟩
  go_simp
  with_reducible rfl
 rotate_left
 ·simp only [Act.put, List.setIfInBounds_toArray, List.set_cons_zero, List.set_cons_succ, i64_w, i32_w]
  rfl
 refine pure_ (i := 10) (N := some 44) (v := ?_) (a' := ?_) #[true, true, true, true, true, true, true, true, true, true, true, false, false, true, false, false, false, false] rfl rfl (any_of rfl (by kernel_rfl)) (fun _ _ _ h => h) (Or.inl ⟨by rfl, ?_⟩) ?_ ?_
 rotate_left
 ·intro w'
  go_simp
  with_reducible rfl
 rotate_left
 ·simp only [Act.put, List.setIfInBounds_toArray, List.set_cons_zero, List.set_cons_succ, i64_w, i32_w]
  rfl
 refine pure_ (i := 11) (N := some 45) (v := ?_) (a' := ?_) #[true, true, true, true, true, true, true, true, true, true, true, true, false, true, false, false, false, false] rfl rfl (any_of rfl (by kernel_rfl)) (fun _ _ _ h => h) (Or.inl ⟨by rfl, ?_⟩) ?_ ?_
 rotate_left
 ·intro w'
  go_simp
  with_reducible rfl
 rotate_left
 ·simp only [Act.put, List.setIfInBounds_toArray, List.set_cons_zero, List.set_cons_succ, i64_w, i32_w]
  rfl
 refine take_ (i := 12) (N := some 46) (v := ?_) (a' := ?_) #[true, true, true, true, true, true, true, true, true, true, true, true, true, true, false, false, false, false] rfl rfl (take_of rfl (by kernel_rfl)) (fun _ _ _ h => h) (Or.inl ⟨by rfl, ?_⟩) hHeld ?_ ?_
 rotate_left
 ·rintro w' ⟨s0, s1⟩
  go_simp
  with_reducible rfl
 rotate_left
 ·simp only [Act.put, List.setIfInBounds_toArray, List.set_cons_zero, List.set_cons_succ, i64_w, i32_w]
  rfl
 obtain ⟨oki, ce, _, hM, hcc, _, hoki, hH⟩ := Kd.S_elem (Kd.S_mono (ok' := fun k => (okI k ∨ w.heap.size ≤ k) ∧ ¬ (w.heap.size ≤ k)) HI.out (fun k hk => ⟨.inl hk, by have := (H7.out k hk).2.2.2.2; omega⟩)) z30 (m : Int) (by omega) (by omega)
 have hgetD : I.getD (m : Int).toNat z30 = o := by rw [Int.toNat_natCast, List.getD_eq_getElem?_getD, HO_.out]; rfl
 rw [hgetD] at hM
 obtain ⟨v2, v3, v4, rfl, hr2, hr3, hr4⟩ := k30_openM hM
 have hv2 : v2 = .slice A2 o.f2.length c2 := by
  have h_ : w2.cell? ⟨gI, m * 5 + 2, none⟩ = some v2 := hcc 2 _ rfl
  exact Option.some.inj (h_.symm.trans E2.out)
 subst hv2
 have hki : ∀ k, oki k → okI k := fun k hk => (hoki k hk).1.1.elim id (fun h_ => absurd h_ (hoki k hk).1.2)
 have hown : ∀ k, (Value.slice A2 o.f2.length c2).ownBlock = some k → oki k := hr2.1
 obtain ⟨cellsI, hcI⟩ := Kd.S_typed HI.out gI (by simp [Value.ownBlock])
 have hty := Kd.R_typed hr2
 have hgne : some gI ≠ (Value.slice A2 o.f2.length c2).ownBlock := fun e_ => by
  obtain ⟨c_, hc_⟩ := hty gI e_.symm
  rw [hcI] at hc_; cases hc_
 refine one_ (i := 14) (N := some 48) #[true, true, true, true, true, true, true, true, true, true, true, true, true, true, true, false, false, false] rfl rfl (one_of rfl (by kernel_rfl)) (by decide) (fun K hK => ?_)
 refine Kd.R_append_rows_step (Kd.int .i32) (w0 := w) base (by rfl) (.tmp 46) (.tmp 47) 26 21 (.int .i32 0) 4 rfl Try.underlying26 info21 rfl (by decide) (by omega) (.slice A2 o.f2.length c2) o.f2 l Al l.length cl (fun k => oki k ∨ w2.heap.size ≤ k) (fun _ => False) rfl rfl (Kd.R_mono hr2 (fun k hk => .inl hk)) HL.out (fun _ _ h => h) (fun _ h => h.elim) (fun k hk => .inr hk) HB.out (Nat.le_trans hbase HZ.out) (by omega) ?_
 intro v5 w3 ho hb hg hat
 obtain ⟨A5, c5, rfl⟩ := Kd.R_slice ho
 replace BK := Aside0.mk (blk_grown BK.out hg (fun e_ => (H7.out p (hki p (hown p e_.symm))).2.2.1 rfl))
 replace HD := Aside0.mk (Kd.N_grown HD.out hg (fun k hk e_ => (H7.out k (hki k (hown k e_.symm))).2.2.2.1 hk))
 replace HK := Aside0.mk (Kept.of_grown hg HK.out (fun k e_ => .inl (H7.out k (hki k (hown k e_))).2.1))
 replace hH := Kd.H_grown hH hg hown
 replace hcI := blk_grown hcI hg hgne
 have hr3' := Kd.R_over' hr3 hty (by decide) hg
 have hr4' := Kd.R_over' hr4 hty (by decide) hg
 have hE2 : w3.cell? ⟨gI, m * 5 + 2, none⟩ = w2.cell? ⟨gI, m * 5 + 2, none⟩ := by have h_ := hg.block gI (World.block_lt_of_cell? w2 _ E2.out) hgne; simp only [World.cell?, h_]
 replace E2 := Aside0.mk (hE2.trans E2.out)
 replace HB := Aside0.mk hb
 have HP2 := Kd.S_seg hH (Int.natCast_nonneg m) (by omega) (seg := [.slice A5 (o.f2 ++ l).length c5]) (j := 2) (show 2 + 1 ≤ 5 from by decide) (x' := (⟨o.f0, o.f1, o.f2 ++ l, o.f3, o.f4⟩ : S30)) (k30_mkM _ _ _ (⟨o.f0, o.f1, o.f2 ++ l, o.f3, o.f4⟩ : S30) ho (Kd.R_mono hr3' (fun k hk => .inl hk)) (Kd.R_mono hr4' (fun k hk => .inl hk))) (fun k hk => hk.imp id (fun h_ => Nat.le_trans HZ.out h_)) (fun k hk => ⟨.inr hk, fun e_ => by have := HG.out; omega⟩)
 have HP3 := Aside0.mk HP2.1
 have HF := Aside0.mk (blk_frozen hcI (m * 5 + 2))
 clear HP2 hH hr2 hr3 hr4 hr3' hr4' ho hb hg hat hcI hty hM hcc hE2 HI
 refine hK.out _ _ ⟨((blk_cell BK.out 1).trans rfl), E2.out⟩ (fun hHeld => ?_)
 clear hK K
 refine norm_ (a' := ?_) ?_ ?_
 rotate_left
 ·show Act.put _ (some 48) _ = _
  simp only [Act.put, List.setIfInBounds_toArray, List.set_cons_zero, List.set_cons_succ, i64_w, i32_w]
  rfl
 refine pure_ (i := 15) (N := some 49) (v := ?_) (a' := ?_) #[true, true, true, true, true, true, true, true, true, true, true, true, true, true, true, true, false, false] rfl rfl (any_of rfl (by kernel_rfl)) (fun _ _ _ h => h) (Or.inl ⟨by rfl, ?_⟩) ?_ ?_
 rotate_left
 ·intro w'
  go_simp
  with_reducible rfl
 rotate_left
 ·simp only [Act.put, List.setIfInBounds_toArray, List.set_cons_zero, List.set_cons_succ, i64_w, i32_w]
  rfl
 refine pure_ (i := 16) (N := some 50) (v := ?_) (a' := ?_) #[true, true, true, true, true, true, true, true, true, true, true, true, true, true, true, true, true, false] rfl rfl (any_of rfl (by kernel_rfl)) (fun _ _ _ h => h) (Or.inl ⟨by rfl, ?_⟩) ?_ ?_
 rotate_left
 ·intro w'
  go_simp
  with_reducible rfl
 rotate_left
 ·simp only [Act.put, List.setIfInBounds_toArray, List.set_cons_zero, List.set_cons_succ, i64_w, i32_w]
  rfl
 refine last_ (i := 17) (N := none) #[true, true, true, true, true, true, true, true, true, true, true, true, true, true, true, true, true, true] rfl rfl (one_of rfl (by kernel_rfl)) (by decide) (fun K hK => ?_)
 have c1 := E2.out
 have f1 := HF.out
 refine skip_ (w1 := w3.setCell ⟨gI, m * 5 + 2, none⟩ (.slice A5 (o.f2 ++ l).length c5)) (by rfl) rfl ?_ ?_
 ·go_simp
  try rfl
 refine hK.out _ _ ?_
 clear hK K
 refine done_ (done_of rfl (by kernel_rfl)) ?_
 go_wp2
 refine bodyPost_ret (results_none rfl _ _ _) rfl ?_
 have hgI := HGI.out
 refine ⟨rfl, ⟨vD, _, okD, fun k => okI k ∨ w.heap.size ≤ k, (Below.heap_setCell w3 ⟨gI, m * 5 + 2, none⟩ _ p (fun e_ => (H7.out gI hgI).2.2.1 e_.symm)).trans BK.out, h2, .inl H3.out, Kd.N_far HD.out (p := ⟨gI, m * 5 + 2, none⟩) (fun k hk e_ => by have e2_ : k = gI := e_; subst e2_; exact (H7.out k hgI).2.2.2.1 hk) _, HP3.out, fun k hk => ⟨(H6.out k hk).1, .inl (H6.out k hk).2.1, (H6.out k hk).2.2.1⟩, fun k hk => hk.elim (fun h_ => ⟨(H7.out k h_).1, .inl (H7.out k h_).2.1, (H7.out k h_).2.2.1, (H7.out k h_).2.2.2.1⟩) (fun h_ => ⟨by omega, .inr h_, fun e_ => by have := HP.out; omega, fun hd => by have := (H6.out k hd).2.2.2; omega⟩)⟩, HK.out.setCell (p := ⟨gI, m * 5 + 2, none⟩) (.inl (H7.out gI hgI).2.1) _, HB.out.setCell (p := ⟨gI, m * 5 + 2, none⟩) (H7.out gI hgI).1 _⟩
end Go.Proofs.Ytmjeoknamoegpaa.P
