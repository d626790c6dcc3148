/- WireOrder: of two natural numbers the greater one has no shorter form; of whole ones the form's length hangs on how far they are from nought alone, but for one: for all numbers; no conditions. -/
import Derived.Test.YtbmelglpcdidcaaPx4
import Derived.Test.YtbmelglpcdidcaaMa
namespace Go.Proofs.Ytbmelglpcdidcaa.Pure
set_option linter.unusedVariables false
open Go.RowKit Go.Proofs.Ytbmelglpcdidcaa.P Go.Proofs.YtbmelglpcdidcaaW.PrintWords Go.Proofs.YtbmelglpcdidcaaW.PrintLast Go.Proofs.Ytbmelglpcdidcaa.Ma

theorem order_j0 (k : Nat) (hk : 11 ≤ k) (i : Int) (h0 : -9223372036854775808 ≤ i) (h1 : i ≤ 9223372036854775807) : rubriclaw02_WireOrder.j0 k i false = some true := by
  obtain ⟨k, rfl⟩ : ∃ j, k = j + 1 := ⟨k - 1, by omega⟩
  simp only [rubriclaw02_WireOrder.j0, Bool.false_eq_true, if_false]
  by_cases e : i = -9223372036854775808
  · subst e
    rw [if_pos rfl, appInt_f (by omega) (by omega) (by omega) (by simp)]
    simp only [Option.bind_some, List.nil_append, rubriclaw02_known.f]
    have hz : zig (-9223372036854775808) = 18446744073709551615 := by decide
    rw [hz, if_pos]
    have h10 := form_le10 (n := 18446744073709551615) (by omega)
    have : 10 ≤ (form 18446744073709551615).length := by
      have key : form 18446744073709551615 = [255, 255, 255, 255, 255, 255, 255, 255, 255, 1] := by
        simp [form]
      rw [key]; decide
    omega
  · rw [if_neg e, appInt_f (by omega) (by omega) (by omega) (by simp)]
    have hw : wrap64 (-i) = -i := by unfold wrap64; omega
    rw [hw]
    simp only [Option.bind_some, List.nil_append]
    rw [appInt_f (by omega) (by omega) (by omega) (by simp)]
    simp only [Option.bind_some, List.nil_append, rubriclaw02_known.f]
    have a1 := form_le10 (zig_lt h0 h1)
    have a2 := form_le10 (zig_lt (n := -i) (by omega) (by omega))
    have key : (form (zig i)).length ≤ (form (zig (-i))).length + 1 ∧ (form (zig (-i))).length ≤ (form (zig i)).length + 1 := by
      unfold zig
      by_cases hp : 0 ≤ i
      · by_cases hz : i = 0
        · subst hz; simp
        · rw [if_pos hp, if_neg (by omega)]
          have e1 : (2 * i).toNat = (-2 * -i - 1).toNat + 1 := by omega
          have t := form_twice (-2 * -i - 1).toNat
          have m := form_mono _ _ (show (-2 * -i - 1).toNat ≤ (2 * i).toNat by omega)
          rw [← e1] at t
          omega
      · rw [if_neg hp, if_pos (by omega)]
        have e1 : (2 * -i).toNat = (-2 * i - 1).toNat + 1 := by omega
        have t := form_twice (-2 * i - 1).toNat
        have m := form_mono _ _ (show (-2 * i - 1).toNat ≤ (2 * -i).toNat by omega)
        rw [← e1] at t
        omega
    rw [if_pos (by unfold wrap64; omega), if_pos (by unfold wrap64; omega)]

theorem WireOrder : rubriclaw02_WireOrder.Pure := by
  intro a0 a1 a2 h0 h1 h2
  have w0 := wf_u64 h0
  have w1 := wf_u64 h1
  have w2 := wf_i64 h2
  obtain ⟨n, rfl⟩ := Int.eq_ofNat_of_zero_le w0.1
  obtain ⟨m, rfl⟩ := Int.eq_ofNat_of_zero_le w1.1
  refine ⟨20, ?_⟩
  unfold rubriclaw02_WireOrder.f
  rw [app_f (by omega) (by omega) (by simp), app_f (by omega) (by omega) (by simp)]
  simp only [Option.bind_some, List.nil_append]
  have p1 := form_pos n
  have p2 := form_le10 (n := n) (by omega)
  have m1 := fun h => form_mono m n h
  have m2 := fun h => form_mono n m h
  have hd : decide (((form n).length : Int) > 10) = false := decide_eq_false (by omega)
  rw [hd]
  by_cases h : (n : Int) < m
  · have := m1 (by omega)
    rw [if_pos h, if_neg (by omega), if_neg (by omega), if_neg (by omega)]
    exact order_j0 _ (by omega) _ w2.1 w2.2
  · rw [if_neg h]
    by_cases h' : (n : Int) > m
    · have := m2 (by omega)
      rw [if_pos h', if_neg (by omega), if_neg (by omega)]
      exact order_j0 _ (by omega) _ w2.1 w2.2
    · rw [if_neg h', if_neg (by omega)]
      exact order_j0 _ (by omega) _ w2.1 w2.2

end Go.Proofs.Ytbmelglpcdidcaa.Pure
