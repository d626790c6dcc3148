/- Plain lemmas on the forms of numbers: digits to the base 128, as lists of whole numbers; what reads them. No program is in sight. -/
import Derived.Test.YtbmelglpcdidcaaPx1
import Derived.Laws.BitsAllLaws
import Derived.Laws.Bits64
import Derived.Lib.Bytes
import Derived.Lib.Strings
namespace Go.Proofs.Ytbmelglpcdidcaa.Ma
set_option linter.unusedVariables false
open Go.RowKit Go.Proofs.Ytbmelglpcdidcaa.P Go.Proofs.YtbmelglpcdidcaaW.PrintWords Go.Proofs.YtbmelglpcdidcaaW.PrintLast Go.Proofs.YtbmelglpcdidcaaW.PrintMore

/-- the digits, the lowest first -/
def form (n : Nat) : List Int := if n < 128 then [(n : Int)] else ((n % 128 + 128 : Nat) : Int) :: form (n / 128)
termination_by n
decreasing_by omega

theorem form_lo {n : Nat} (h : n < 128) : form n = [(n : Int)] := by rw [form, if_pos h]
theorem form_hi {n : Nat} (h : ¬ n < 128) : form n = ((n % 128 + 128 : Nat) : Int) :: form (n / 128) := by rw [form, if_neg h]

theorem form_pos (n : Nat) : 1 ≤ (form n).length := by
  by_cases h : n < 128
  · rw [form_lo h]; simp
  · rw [form_hi h]; simp
theorem form_bytes (n : Nat) : ∀ x ∈ form n, 0 ≤ x ∧ x < 256 := by
  induction n using Nat.strongRecOn with
  | _ n ih =>
    by_cases h : n < 128
    · rw [form_lo h]; intro x hx; simp at hx; omega
    · rw [form_hi h]; intro x hx
      rcases List.mem_cons.1 hx with rfl | hx
      · omega
      · exact ih (n / 128) (by omega) x hx
theorem form_mono (m : Nat) : ∀ n, n ≤ m → (form n).length ≤ (form m).length := by
  induction m using Nat.strongRecOn with
  | _ m ih =>
    intro n hn
    by_cases h : m < 128
    · rw [form_lo h, form_lo (by omega)]; simp
    · rw [form_hi h]
      by_cases h' : n < 128
      · rw [form_lo h']; simp
      · rw [form_hi h']
        have := ih (m / 128) (by omega) (n / 128) (Nat.div_le_div_right hn)
        simp only [List.length_cons]; omega
/-- a number below 2^(7j) has at most j digits -/
theorem form_le : ∀ (j : Nat) (n : Nat), n < 2 ^ (7 * (j + 1)) → (form n).length ≤ j + 1 := by
  intro j
  induction j with
  | zero => intro n h; rw [form_lo (by simpa using h)]; simp
  | succ j ih =>
    intro n h
    by_cases h' : n < 128
    · rw [form_lo h']; simp
    · rw [form_hi h']
      have h2 : 2 ^ (7 * (j + 1 + 1)) = 2 ^ (7 * (j + 1)) * 128 := by rw [show 7 * (j + 1 + 1) = 7 * (j + 1) + 7 by omega, Nat.pow_add]
      have := ih (n / 128) (by rw [Nat.div_lt_iff_lt_mul (by omega)]; omega)
      simp only [List.length_cons]; omega
theorem form_le10 {n : Nat} (h : n < 18446744073709551616) : (form n).length ≤ 10 := form_le 9 n (Nat.lt_trans h (by decide))
/-- one digit more at the most, of one that is at most twice as much and one more -/
theorem form_twice (n : Nat) : (form (n + 1)).length ≤ (form n).length + 1 := by
  induction n using Nat.strongRecOn with
  | _ n ih =>
    by_cases h : n < 128
    · rw [form_lo h]
      by_cases h' : n + 1 < 128
      · rw [form_lo h']; simp
      · rw [form_hi h', form_lo (by omega)]; simp
    · rw [form_hi h, form_hi (by omega : ¬ n + 1 < 128)]
      simp only [List.length_cons]
      have := form_mono (n / 128 + 1) ((n + 1) / 128) (by omega)
      have := ih (n / 128) (by omega)
      omega
theorem form_inj (n : Nat) : ∀ (m : Nat) (r s : List Int), form n ++ r = form m ++ s → n = m := by
  induction n using Nat.strongRecOn with
  | _ n ih =>
    intro m r s h
    by_cases hn : n < 128 <;> by_cases hm : m < 128
    · rw [form_lo hn, form_lo hm] at h; simp at h; omega
    · rw [form_lo hn, form_hi hm] at h; simp at h; omega
    · rw [form_hi hn, form_lo hm] at h; simp at h; omega
    · rw [form_hi hn, form_hi hm] at h
      simp only [List.cons_append, List.cons.injEq] at h
      have := ih (n / 128) (by omega) (m / 128) r s h.2
      omega

/-- what is read, from digit i on: the number, and how many digits -/
def dig : Nat → List Int → Option (Nat × Nat)
  | _, [] => none
  | i, x :: r => if (i = 9 ∧ x > 1) ∨ (i > 0 ∧ x = 0) then none else if x < 128 then some (x.toNat, 1) else (dig (i + 1) r).map fun z => (x.toNat % 128 + 128 * z.1, z.2 + 1)

theorem dig_form (n : Nat) : ∀ (i : Nat) (r : List Int), (i = 0 ∨ n ≠ 0) → i ≤ 9 → n < 2 ^ (64 - 7 * i) → dig i (form n ++ r) = some (n, (form n).length) := by
  induction n using Nat.strongRecOn with
  | _ n ih =>
    intro i r h0 hi hn
    have h9 : i = 9 → n < 2 := by rintro rfl; simpa using hn
    by_cases h : n < 128
    · rw [form_lo h]
      simp only [List.singleton_append, dig]
      rw [if_neg (by omega), if_pos (by omega)]
      simp
    · have hi9 : i ≤ 8 := by
        rcases Nat.lt_or_ge i 9 with h' | h'
        · omega
        · have := h9 (by omega); omega
      rw [form_hi h]
      simp only [List.cons_append, dig]
      rw [if_neg (by omega), if_neg (by omega)]
      have hp : 2 ^ (64 - 7 * i) = 2 ^ (64 - 7 * (i + 1)) * 128 := by
        rw [show 64 - 7 * i = (64 - 7 * (i + 1)) + 7 by omega, Nat.pow_add]
      rw [ih (n / 128) (by omega) (i + 1) r (Or.inr (by omega)) (by omega) (by rw [Nat.div_lt_iff_lt_mul (by omega), ← hp]; exact hn)]
      simp only [Option.map_some, List.length_cons, Int.toNat_natCast, Option.some.injEq, Prod.mk.injEq]
      exact ⟨by omega, trivial⟩
theorem dig_some : ∀ (l : List Int) (i : Nat), (∀ x ∈ l, 0 ≤ x ∧ x < 256) → i ≤ 9 → ∀ v c, dig i l = some (v, c) →
    v < 2 ^ (64 - 7 * i) ∧ 1 ≤ c ∧ c ≤ l.length ∧ c + i ≤ 10 ∧ form v = l.take c ∧ (0 < i → v ≠ 0)
  | [], _, _, _, v, c, h => by simp [dig] at h
  | x :: r, i, hx, hi, v, c, h => by
    have hx0 := hx x List.mem_cons_self
    simp only [dig] at h
    split at h
    · cases h
    · rename_i hn
      split at h
      · rename_i hlt
        simp only [Option.some.injEq, Prod.mk.injEq] at h
        obtain ⟨rfl, rfl⟩ := h
        refine ⟨?_, Nat.le_refl _, by simp, by omega, ?_, fun h0 => by omega⟩
        · by_cases h9 : i = 9
          · subst h9
            have : x ≤ 1 := by omega
            simp; omega
          · have hp : 2 ^ 7 ≤ 2 ^ (64 - 7 * i) := Nat.pow_le_pow_right (by omega) (by omega)
            omega
        · rw [form_lo (by omega)]; simp; omega
      · rename_i hge
        obtain ⟨⟨v', c'⟩, hd, he⟩ := Option.map_eq_some_iff.1 h
        simp only [Prod.mk.injEq] at he
        obtain ⟨rfl, rfl⟩ := he
        have hi8 : i ≤ 8 := by omega
        obtain ⟨h1, h2, h3, h4, h5, h6⟩ := dig_some r (i + 1) (fun y hy => hx y (List.mem_cons_of_mem _ hy)) (by omega) v' c' hd
        have hp : 2 ^ (64 - 7 * i) = 2 ^ (64 - 7 * (i + 1)) * 128 := by
          rw [show 64 - 7 * i = (64 - 7 * (i + 1)) + 7 by omega, Nat.pow_add]
        have hv0 := h6 (by omega)
        refine ⟨by rw [hp]; omega, by omega, by simp; omega, by omega, ?_, fun _ => by omega⟩
        rw [form_hi (by omega), show (x.toNat % 128 + 128 * v') / 128 = v' by omega, h5, List.take_succ_cons]
        congr 1
        omega

/-! the bits -/
theorem or128 (x : Int) (h0 : 0 ≤ x) : Go.bits .or .u8 (x % 256) 128 = x % 128 + 128 := by
  have key : ∀ y : Fin 256, Go.bits .or .u8 ((y.val : Nat) : Int) 128 = ((y.val % 128 + 128 : Nat) : Int) := by decide +kernel
  have h := key ⟨(x % 256).toNat, by omega⟩
  simp only at h
  rw [show (((x % 256).toNat : Nat) : Int) = x % 256 by omega] at h
  rw [h]; omega
theorem and127 (x : Int) (h0 : 0 ≤ x) (h1 : x < 256) : Go.bits .and .u8 x 127 = x % 128 := by
  have key : ∀ y : Fin 256, Go.bits .and .u8 ((y.val : Nat) : Int) 127 = ((y.val % 128 : Nat) : Int) := by decide +kernel
  have h := key ⟨x.toNat, by omega⟩
  simp only at h
  rw [show ((x.toNat : Nat) : Int) = x by omega] at h
  rw [h]; omega
theorem join64 (a x i : Nat) (hi : i ≤ 9) (ha : a < 2 ^ (7 * i)) (hx : x < 128) (h9 : i = 9 → x ≤ 1) :
    Go.bits .or .u64 (a : Int) (shl .u64 (IntKind.u64.wrap (x : Int)) (wrap64 (7 * (i : Int)))) = ((a + x * 2 ^ (7 * i) : Nat) : Int) := by
  have hw : wrap64 (7 * (i : Int)) = ((7 * i : Nat) : Int) := by unfold wrap64; omega
  have hxw : IntKind.u64.wrap (x : Int) = (x : Int) := by rw [IntKind.wrap_u64]; omega
  have hb : x * 2 ^ (7 * i) < 18446744073709551616 := by
    by_cases h : i = 9
    · subst h
      have := h9 rfl
      have e : 2 ^ (7 * 9) = 9223372036854775808 := by decide
      rw [e]; omega
    · have h1 : 2 ^ (7 * i) ≤ 2 ^ 56 := Nat.pow_le_pow_right (by omega) (by omega)
      have e : (2 : Nat) ^ 56 = 72057594037927936 := by decide
      have h2 : x * 2 ^ (7 * i) ≤ 127 * 2 ^ 56 := Nat.mul_le_mul (by omega) h1
      rw [e] at h2; omega
  have hs : shl .u64 (IntKind.u64.wrap (x : Int)) (wrap64 (7 * (i : Int))) = ((x * 2 ^ (7 * i) : Nat) : Int) := by
    unfold shl
    rw [hw, hxw, Int.toNat_natCast, Nat.min_eq_left (show 7 * i ≤ IntKind.u64.bits from by show 7 * i ≤ 64; omega), IntKind.wrap_u64]
    have : ((x : Int) * 2 ^ (7 * i)) = ((x * 2 ^ (7 * i) : Nat) : Int) := by simp
    rw [this]; omega
  have ha2 : a < 18446744073709551616 := by
    have h1 : 2 ^ (7 * i) ≤ 2 ^ 63 := Nat.pow_le_pow_right (by omega) (by omega)
    have e : (2 : Nat) ^ 63 = 9223372036854775808 := by decide
    omega
  rw [hs, u64_or_nat _ _ ha2 hb, Nat.or_comm, nat_join (7 * i) _ _ (Nat.mul_mod_left _ _) ha, Nat.add_comm]

/-! AppendUint -/
theorem app_l0 : ∀ (k : Nat) (n : Nat) (xs : List Int), (form n).length ≤ k → xs.length + (form n).length ≤ 140737488355328 → wire_AppendUint.l0 k xs (n : Int) = some (xs ++ form n) := by
  intro k
  induction k with
  | zero => intro n xs h; have := form_pos n; omega
  | succ k ih =>
    intro n xs h hl
    have hp := form_pos n
    simp only [wire_AppendUint.l0]
    by_cases hn : n < 128
    · rw [if_neg (by omega), if_pos (by omega), form_lo hn, show (n : Int) % 256 = n by omega]
    · rw [form_hi hn] at h hl
      simp only [List.length_cons] at h hl
      rw [if_pos (by omega), if_pos (by omega), or128 _ (by omega), show (n : Int) / 128 = ((n / 128 : Nat) : Int) by omega, ih _ _ (by omega) (by simp only [List.length_append, List.length_singleton]; omega), form_hi hn]
      simp
theorem clone_f (xs : List Int) (h : xs.length < 140737488355328) : slices_Clone_byte_byte.f xs = some xs := by
  unfold slices_Clone_byte_byte.f
  simp [h]
theorem app_f {k : Nat} {n : Nat} {xs : List Int} (hk : 10 ≤ k) (hn : n < 18446744073709551616) (hl : xs.length ≤ 140737488351232) : wire_AppendUint.f k xs (n : Int) = some (xs ++ form n) := by
  unfold wire_AppendUint.f
  have := form_le10 hn
  rw [clone_f _ (by omega)]
  simp only [Option.bind_some]
  exact app_l0 _ _ _ (by omega) (by omega)

/-! Uint -/
theorem rd_get (l : List Int) (i : Nat) (h : i < l.length) : rd l (i : Int) = l[i] := by simp [rd, h]
theorem uint_l0 : ∀ (k : Nat) (p s : List Int) (at_ : Int) (a : Nat), 2 * s.length < k → (∀ x ∈ s, 0 ≤ x ∧ x < 256) → p.length ≤ 9 → a < 2 ^ (7 * p.length) → 0 ≤ at_ → at_ + (p ++ s).length ≤ 140737488355328 →
    wire_Uint.l0 k at_ (a : Int) (p ++ s) ((p ++ s).length : Int) (p.length : Int) = match dig p.length s with | none => some (0, 0, 3) | some (v, c) => some (((a + v * 2 ^ (7 * p.length) : Nat) : Int), at_ + p.length + ((c : Nat) : Int), (0 : Int)) := by
  intro k
  induction k using Nat.strongRecOn with
  | _ k ih =>
    intro p s at_ a hk hs hp ha h0 hl
    obtain ⟨k, rfl⟩ : ∃ m, k = m + 1 := ⟨k - 1, by omega⟩
    simp only [wire_Uint.l0]
    cases s with
    | nil =>
      rw [if_neg (by simp)]
      simp [dig]
    | cons x r =>
      have hx := hs x List.mem_cons_self
      simp only [List.length_append, List.length_cons] at hl hk
      have hg : rd (p ++ x :: r) (p.length : Int) = x := by rw [rd_get _ _ (by simp)]; simp
      rw [if_pos (by simp only [List.length_append, List.length_cons]; omega), if_pos (by omega), if_pos (by simp only [List.length_append, List.length_cons]; omega), hg]
      obtain ⟨k, rfl⟩ : ∃ m, k = m + 1 := ⟨k - 1, by omega⟩
      have hw7' : wrap64 (7 * (p.length : Int)) = 7 * (p.length : Int) := by unfold wrap64; omega
      have hw7 : 0 ≤ wrap64 (7 * (p.length : Int)) := by omega
      clear hw7'
      have hwa : wrap64 (wrap64 (at_ + (p.length : Int)) + 1) = at_ + p.length + 1 := by unfold wrap64; omega
      have hwp : wrap64 ((p.length : Int) + 1) = ((p ++ [x]).length : Int) := by simp; unfold wrap64; omega
      -- the two ways behind the test
      have yes : ∀ (L : List Int) (n : Int), wire_Uint.j2 (k + 1) at_ (a : Int) (p.length : Int) x L n (p.length : Int) true = some (0, 0, 3) := by
        intro L n; simp [wire_Uint.j2]
      have no : ¬ ((p.length = 9 ∧ x > 1) ∨ (p.length > 0 ∧ x = 0)) → wire_Uint.j2 (k + 1) at_ (a : Int) (p.length : Int) x (p ++ x :: r) ((p ++ x :: r).length : Int) (p.length : Int) false =
          if x < 128 then some (((a + x.toNat * 2 ^ (7 * p.length) : Nat) : Int), at_ + p.length + 1, (0 : Int))
          else match dig (p.length + 1) r with | none => some (0, 0, 3) | some (v, c) => some (((a + x.toNat % 128 * 2 ^ (7 * p.length) + v * 2 ^ (7 * (p.length + 1)) : Nat) : Int), at_ + p.length + 1 + c, 0) := by
        intro hn
        simp only [wire_Uint.j2, Bool.false_eq_true, if_false]
        by_cases hlt : x < 128
        · rw [if_pos hlt, if_pos hlt, if_pos hw7, hwa]
          have hj := join64 a x.toNat p.length hp ha (by omega) (fun h => by omega)
          rw [show ((x.toNat : Nat) : Int) = x by omega] at hj
          rw [hj]
        · rw [if_neg hlt, if_neg hlt, if_pos hw7, and127 _ (by omega) (by omega)]
          have hj := join64 a (x.toNat % 128) p.length hp ha (by omega) (fun h => by omega)
          rw [show ((x.toNat % 128 : Nat) : Int) = x % 128 by omega] at hj
          rw [hj, hwp]
          have hp8 : p.length ≤ 8 := by omega
          have hpow : 2 ^ (7 * (p.length + 1)) = 2 ^ (7 * p.length) * 128 := by rw [show 7 * (p.length + 1) = 7 * p.length + 7 by omega, Nat.pow_add]
          have ha' : a + x.toNat % 128 * 2 ^ (7 * p.length) < 2 ^ (7 * (p ++ [x]).length) := by
            simp only [List.length_append, List.length_singleton]
            rw [hpow]
            have : x.toNat % 128 * 2 ^ (7 * p.length) ≤ 127 * 2 ^ (7 * p.length) := Nat.mul_le_mul_right _ (by omega)
            omega
          have := ih k (by omega) (p ++ [x]) r at_ _ (by omega) (fun y hy => hs y (List.mem_cons_of_mem _ hy)) (by simp; omega) ha' h0 (by simp; omega)
          rw [show p ++ x :: r = (p ++ [x]) ++ r by simp]
          rw [this]
          simp only [List.length_append, List.length_singleton]
          cases dig (p.length + 1) r with
          | none => rfl
          | some z =>
            obtain ⟨v, c⟩ := z
            simp only [Option.some.injEq, Prod.mk.injEq, and_true, true_and]
            omega
      have fin : (if x < 128 then some (((a + x.toNat * 2 ^ (7 * p.length) : Nat) : Int), at_ + p.length + 1, (0 : Int))
          else match dig (p.length + 1) r with | none => some (0, 0, 3) | some (v, c) => some (((a + x.toNat % 128 * 2 ^ (7 * p.length) + v * 2 ^ (7 * (p.length + 1)) : Nat) : Int), at_ + p.length + 1 + c, 0)) =
          match (if x < 128 then some (x.toNat, (1 : Nat)) else (dig (p.length + 1) r).map fun z => (x.toNat % 128 + 128 * z.1, z.2 + 1)) with | none => some (0, 0, 3) | some (v, c) => some (((a + v * 2 ^ (7 * p.length) : Nat) : Int), at_ + p.length + ((c : Nat) : Int), (0 : Int)) := by
        by_cases hlt : x < 128
        · rw [if_pos hlt, if_pos hlt]; simp
        · rw [if_neg hlt, if_neg hlt]
          cases dig (p.length + 1) r with
          | none => rfl
          | some z =>
            obtain ⟨v, c⟩ := z
            simp only [Option.map_some, Option.some.injEq, Prod.mk.injEq, and_true]
            refine ⟨?_, by omega⟩
            have hpow : 2 ^ (7 * (p.length + 1)) = 128 * 2 ^ (7 * p.length) := by rw [show 7 * (p.length + 1) = 7 * p.length + 7 by omega, Nat.pow_add, Nat.mul_comm]
            rw [hpow, Nat.add_mul, ← Nat.mul_assoc, Nat.mul_comm v 128, Nat.add_assoc]
      simp only [dig]
      by_cases h9 : (p.length : Int) = 9
      · rw [if_pos h9]
        by_cases h1 : x > 1
        · rw [if_pos h1, yes, if_pos (Or.inl ⟨by omega, h1⟩)]
        · rw [if_neg h1, if_pos (by omega)]
          by_cases hx0 : x = 0
          · rw [show (x == 0) = true by simp [hx0], yes, if_pos (Or.inr ⟨by omega, hx0⟩)]
          · have hc : ¬ ((p.length = 9 ∧ x > 1) ∨ (p.length > 0 ∧ x = 0)) := by omega
            rw [show (x == 0) = false by simp [hx0], no hc, fin, if_neg hc]
      · rw [if_neg h9]
        by_cases hp0 : (p.length : Int) > 0
        · rw [if_pos hp0]
          by_cases hx0 : x = 0
          · rw [show (x == 0) = true by simp [hx0], yes, if_pos (Or.inr ⟨by omega, hx0⟩)]
          · have hc : ¬ ((p.length = 9 ∧ x > 1) ∨ (p.length > 0 ∧ x = 0)) := by omega
            rw [show (x == 0) = false by simp [hx0], no hc, fin, if_neg hc]
        · have hc : ¬ ((p.length = 9 ∧ x > 1) ∨ (p.length > 0 ∧ x = 0)) := by omega
          rw [if_neg hp0, no hc, fin, if_neg hc]

/-- what Uint answers -/
def uint (l : List Int) (at_ : Int) : Int × Int × Int :=
  if at_ < 0 ∨ at_ > l.length then (0, 0, 5) else match dig 0 (l.drop at_.toNat) with | none => (0, 0, 3) | some (v, c) => ((v : Int), at_ + c, 0)
theorem uint_f {k : Nat} {l : List Int} {at_ : Int} (hk : 2 * l.length + 2 < k) (hb : ∀ x ∈ l, 0 ≤ x ∧ x < 256) (hl : l.length ≤ 140737488351232) : wire_Uint.f k l at_ = some (uint l at_) := by
  obtain ⟨k, rfl⟩ : ∃ m, k = m + 1 := ⟨k - 1, by omega⟩
  unfold wire_Uint.f uint
  by_cases h0 : at_ < 0
  · rw [if_pos h0, if_pos (Or.inl h0)]; simp [wire_Uint.j0]
  · rw [if_neg h0]
    by_cases h1 : at_ > l.length
    · rw [if_pos (Or.inr h1), show decide (at_ > (l.length : Int)) = true from decide_eq_true h1]; simp [wire_Uint.j0]
    · rw [if_neg (by omega), show decide (at_ > (l.length : Int)) = false from decide_eq_false h1]
      simp only [wire_Uint.j0, Bool.false_eq_true, if_false]
      rw [if_pos (by omega), if_pos (by omega)]
      have := uint_l0 k [] (l.drop at_.toNat) at_ 0 (by rw [List.length_drop]; omega) (fun x hx => hb x (List.mem_of_mem_drop hx)) (by simp) (by simp) (by omega) (by simp only [List.nil_append, List.length_drop]; omega)
      simp only [List.nil_append, List.length_nil, Int.natCast_zero, Nat.mul_zero, Nat.pow_zero, Nat.mul_one, Nat.zero_add, Int.add_zero] at this
      rw [this]
      cases dig 0 (l.drop at_.toNat) with
      | none => rfl
      | some z => rfl
/-- a form that stands there is read -/
theorem uint_form (p r : List Int) (n : Nat) (hn : n < 18446744073709551616) : uint (p ++ form n ++ r) (p.length : Int) = ((n : Int), (p.length : Int) + (form n).length, 0) := by
  unfold uint
  rw [if_neg (by simp only [List.length_append]; omega)]
  have : (p ++ form n ++ r).drop (p.length : Int).toNat = form n ++ r := by simp
  rw [this, dig_form n 0 r (Or.inl rfl) (by omega) (by simpa using hn)]
theorem uint_some {l : List Int} {at_ v nx : Int} (hb : ∀ x ∈ l, 0 ≤ x ∧ x < 256) (h : uint l at_ = (v, nx, 0)) : 0 ≤ at_ ∧ at_ ≤ l.length ∧ 0 ≤ v ∧ v < 18446744073709551616 ∧ at_ + 1 ≤ nx ∧ nx ≤ at_ + 10 ∧ nx ≤ l.length ∧ form v.toNat = (l.drop at_.toNat).take (nx - at_).toNat := by
  unfold uint at h
  split at h
  · simp at h
  · rename_i hr
    split at h
    · simp at h
    · rename_i v' c hd
      simp only [Prod.mk.injEq, and_true] at h
      obtain ⟨rfl, rfl⟩ := h
      obtain ⟨h1, h2, h3, h4, h5, _⟩ := dig_some _ 0 (fun x hx => hb x (List.mem_of_mem_drop hx)) (by omega) _ _ hd
      rw [List.length_drop] at h3
      refine ⟨by omega, by omega, by omega, by simp at h1; omega, by omega, by omega, by omega, ?_⟩
      rw [Int.toNat_natCast, h5]
      congr 1
      omega
theorem uint_err {l : List Int} {at_ v nx e : Int} (h : uint l at_ = (v, nx, e)) : (e = 0 ∨ e = 3 ∨ e = 5) ∧ (e ≠ 0 → v = 0 ∧ nx = 0) ∧ (e = 5 ↔ (at_ < 0 ∨ at_ > l.length)) := by
  unfold uint at h
  split at h
  · rename_i hr
    simp only [Prod.mk.injEq] at h
    obtain ⟨rfl, rfl, rfl⟩ := h
    exact ⟨by omega, fun _ => ⟨rfl, rfl⟩, by simpa using hr⟩
  · rename_i hr
    split at h <;>
    · simp only [Prod.mk.injEq] at h
      obtain ⟨rfl, rfl, rfl⟩ := h
      exact ⟨by omega, fun _ => by omega, by simpa using hr⟩

/-! strings of bytes -/
theorem str_inj {a b : List Int} (ha : ∀ x ∈ a, 0 ≤ x ∧ x < 256) (hb : ∀ x ∈ b, 0 ≤ x ∧ x < 256) (h : (strOfNums a).toList = (strOfNums b).toList) : a = b := by
  rw [Lib.strOfNums_toList, Lib.strOfNums_toList] at h
  unfold Lib.bytesOf at h
  induction a generalizing b with
  | nil => cases b with
    | nil => rfl
    | cons y b => simp at h
  | cons x a ih => cases b with
    | nil => simp at h
    | cons y b =>
      simp only [List.map_cons, List.cons.injEq] at h
      have hx := ha x List.mem_cons_self
      have hy := hb y List.mem_cons_self
      have h1 := congrArg UInt8.toNat h.1
      simp only [UInt8.toNat_ofNat'] at h1
      rw [ih (fun z hz => ha z (List.mem_cons_of_mem _ hz)) (fun z hz => hb z (List.mem_cons_of_mem _ hz)) h.2]
      congr 1
      omega
theorem wf_u8 {l : List Int} (h : ∀ x ∈ l, (Lit.int .u8 x).wf = true) : ∀ x ∈ l, 0 ≤ x ∧ x < 256 := fun x hx => by
  have := h x hx
  simp [Lit.wf, IntKind.min, IntKind.max, IntKind.signed, IntKind.bits] at this
  omega
theorem wf_u64 {x : Int} (h : (Lit.int .u64 x).wf = true) : 0 ≤ x ∧ x < 18446744073709551616 := by
  simp [Lit.wf, IntKind.min, IntKind.max, IntKind.signed, IntKind.bits] at h
  omega
theorem wf_i64 {x : Int} (h : (Lit.int .i64 x).wf = true) : -9223372036854775808 ≤ x ∧ x ≤ 9223372036854775807 := by
  simp [Lit.wf, IntKind.min, IntKind.max, IntKind.signed, IntKind.bits] at h
  omega

/-! whole numbers -/
def zig (n : Int) : Nat := if 0 ≤ n then (2 * n).toNat else (-2 * n - 1).toNat
theorem zig_f {n : Int} (h0 : -9223372036854775808 ≤ n) (h1 : n ≤ 9223372036854775807) : wire_zig.f n = some ((zig n : Nat) : Int) := by
  unfold wire_zig.f zig
  simp only [IntKind.wrap_u64]
  by_cases h : 0 ≤ n
  · rw [if_pos h, show n % 18446744073709551616 * 2 % 18446744073709551616 = (((2 * n).toNat : Nat) : Int) by omega, show n / 9223372036854775808 % 18446744073709551616 = ((0 : Nat) : Int) by omega, u64_xor_nat _ _ (by omega) (by omega), Nat.xor_zero]
  · have hx : ∀ y : Nat, y < 18446744073709551616 → y ^^^ 18446744073709551615 = 18446744073709551615 - y := by
      intro y hy
      apply Nat.eq_of_testBit_eq
      intro i
      rw [show (18446744073709551615 : Nat) - y = 2 ^ 64 - (y + 1) by omega, Nat.testBit_two_pow_sub_succ (by simpa using hy), Nat.testBit_xor, show (18446744073709551615 : Nat) = 2 ^ 64 - 1 by rfl, Nat.testBit_two_pow_sub_one]
      by_cases hi : i < 64
      · simp [hi]
      · have : y.testBit i = false := Nat.testBit_lt_two_pow (Nat.lt_of_lt_of_le (by simpa using hy) (Nat.pow_le_pow_right (n := 2) (by omega) (show 64 ≤ i by omega)))
        simp [hi, this]
    rw [if_neg h, show n % 18446744073709551616 * 2 % 18446744073709551616 = (((18446744073709551616 + 2 * n).toNat : Nat) : Int) by omega, show n / 9223372036854775808 % 18446744073709551616 = ((18446744073709551615 : Nat) : Int) by omega, u64_xor_nat _ _ (by omega) (by omega), hx _ (by omega)]
    congr 2
    omega
theorem zig_lt {n : Int} (h0 : -9223372036854775808 ≤ n) (h1 : n ≤ 9223372036854775807) : zig n < 18446744073709551616 := by unfold zig; split <;> omega
theorem appInt_f {k : Nat} {n : Int} {xs : List Int} (hk : 10 ≤ k) (h0 : -9223372036854775808 ≤ n) (h1 : n ≤ 9223372036854775807) (hl : xs.length ≤ 140737488351232) : wire_AppendInt.f k xs n = some (xs ++ form (zig n)) := by
  unfold wire_AppendInt.f
  rw [zig_f h0 h1]
  simp only [Option.bind_some]
  rw [app_f hk (zig_lt h0 h1) hl]
  rfl
end Go.Proofs.Ytbmelglpcdidcaa.Ma
