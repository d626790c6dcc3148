/- Plain lemmas: what the reference writes and reads is the same. No program is in sight. -/
import Derived.Test.YtbmelglpcdidcaaMb
import Derived.Test.YtbmelglpcdidcaaPx5
namespace Go.Proofs.Ytbmelglpcdidcaa.Ma
set_option linter.unusedVariables false
open Go.RowKit Go.Proofs.Ytbmelglpcdidcaa.P Go.Proofs.YtbmelglpcdidcaaW.PrintWords Go.Proofs.YtbmelglpcdidcaaW.PrintLast Go.Proofs.YtbmelglpcdidcaaW.PrintMore

theorem ref_form_l0 : ∀ (k : Nat) (n : Nat) (xs : List Int), (form n).length ≤ k → n < 18446744073709551616 → xs.length + (form n).length ≤ 140737488355328 → rubricref02_Form.l0 k (n : Int) xs = some (xs ++ form n) := by
  intro k
  induction k with
  | zero => intro n xs h; have := form_pos n; omega
  | succ k ih =>
    intro n xs h hn64 hl
    have hp := form_pos n
    have hd : IntKind.u64.wrap (Int.tdiv (n : Int) 128) = ((n / 128 : Nat) : Int) := by
      rw [show Int.tdiv (n : Int) 128 = ((n / 128 : Nat) : Int) from rfl, IntKind.wrap_u64]; omega
    have hm : Int.tmod (n : Int) 128 = ((n % 128 : Nat) : Int) := rfl
    simp only [rubricref02_Form.l0]
    rw [hd, hm]
    by_cases hn : n < 128
    · rw [if_pos (by omega), if_pos (by omega), form_lo hn]
      congr 3
      omega
    · rw [form_hi hn] at h hl
      simp only [List.length_cons] at h hl
      rw [if_neg (by omega), if_pos (by omega), ih _ _ (by omega) (by omega) (by simp only [List.length_append, List.length_singleton]; omega), form_hi hn]
      rw [show (((n % 128 : Nat) : Int) % 256 + 128) % 256 = ((n % 128 + 128 : Nat) : Int) by omega]
      simp
theorem ref_form_f {k n : Nat} (hk : 10 ≤ k) (hn : n < 18446744073709551616) : rubricref02_Form.f k (n : Int) = some (form n) := by
  unfold rubricref02_Form.f
  have := form_le10 hn
  rw [ref_form_l0 _ _ _ (by omega) hn (by simp; omega)]
  rfl
theorem ref_back_f {a : Int} (h0 : 0 ≤ a) (h1 : a < 18446744073709551616) : rubricref02_Back.f a = some (zag a) := by
  obtain ⟨n, rfl⟩ := Int.eq_ofNat_of_zero_le h0
  unfold rubricref02_Back.f zag
  rw [show Int.tmod (n : Int) 2 = ((n % 2 : Nat) : Int) from rfl, show Int.tdiv (n : Int) 2 = ((n / 2 : Nat) : Int) from rfl, IntKind.wrap_u64]
  split
  · rw [if_pos (by omega)]; congr 1; unfold wrap64; omega
  · rw [if_neg (by omega)]; congr 1; unfold wrap64; omega

/-- the value of digits -/
def val : List Int → Nat
  | [] => 0
  | y :: p => y.toNat % 128 + 128 * val p
theorem val_snoc (p : List Int) (x : Int) : val (p ++ [x]) = val p + x.toNat % 128 * 128 ^ p.length := by
  induction p with
  | nil => simp [val]
  | cons y p ih =>
    simp only [List.cons_append, val, List.length_cons, ih, Nat.pow_succ, Nat.mul_add]
    rw [← Nat.add_assoc, Nat.mul_left_comm, Nat.mul_comm 128 (128 ^ p.length)]
theorem dig_long : ∀ (p s : List Int) (i : Nat), (∀ y ∈ p, 128 ≤ y) → i ≤ 9 → 10 ≤ p.length + i → dig i (p ++ s) = none
  | [], s, i, _, hi, hl => by simp at hl; omega
  | y :: p, s, i, hp, hi, hl => by
    have hy := hp y List.mem_cons_self
    simp only [List.cons_append, dig]
    by_cases h9 : i = 9
    · rw [if_pos (Or.inl ⟨h9, by omega⟩)]
    · rw [if_neg (by omega), if_neg (by omega), dig_long p s (i + 1) (fun z hz => hp z (List.mem_cons_of_mem _ hz)) (by omega) (by simp at hl; omega)]
      rfl
theorem dig_open : ∀ (p : List Int) (i : Nat), (∀ y ∈ p, 128 ≤ y) → dig i p = none
  | [], i, _ => rfl
  | y :: p, i, hp => by
    have hy := hp y List.mem_cons_self
    simp only [dig]
    split
    · rfl
    · rw [if_neg (by omega), dig_open p (i + 1) (fun z hz => hp z (List.mem_cons_of_mem _ hz))]
      rfl
theorem dig_val : ∀ (p : List Int) (x : Int) (r : List Int) (i v c : Nat), (∀ y ∈ p, 128 ≤ y) → 0 ≤ x → x < 128 → dig i (p ++ x :: r) = some (v, c) → v = val (p ++ [x]) ∧ c = p.length + 1
  | [], x, r, i, v, c, _, h0, hx, h => by
    simp only [List.nil_append, dig] at h
    split at h
    · cases h
    · simp only [Option.some.injEq, Prod.mk.injEq] at h
      simp [val]; omega
  | y :: p, x, r, i, v, c, hp, h0, hx, h => by
    have hy := hp y List.mem_cons_self
    simp only [List.cons_append, dig] at h
    split at h
    · cases h
    · rw [if_neg (by omega)] at h
      obtain ⟨⟨v', c'⟩, hd, he⟩ := Option.map_eq_some_iff.1 h
      simp only [Prod.mk.injEq] at he
      obtain ⟨rfl, rfl⟩ := he
      obtain ⟨h1, h2⟩ := dig_val p x r (i + 1) v' c' (fun z hz => hp z (List.mem_cons_of_mem _ hz)) h0 hx hd
      simp only [List.cons_append, val, List.length_cons]
      omega
theorem acc (a x s : Nat) : IntKind.u64.wrap (((a % 18446744073709551616 : Nat) : Int) + IntKind.u64.wrap (IntKind.u64.wrap ((x : Nat) : Int) * ((s % 18446744073709551616 : Nat) : Int))) = (((a + x * s) % 18446744073709551616 : Nat) : Int) := by
  rw [IntKind.wrap_u64, IntKind.wrap_u64, IntKind.wrap_u64]
  have h : (((x : Nat) : Int) % 18446744073709551616 * ((s % 18446744073709551616 : Nat) : Int)) % 18446744073709551616 = ((x * s % 18446744073709551616 : Nat) : Int) := by
    have e : ((x : Nat) : Int) % 18446744073709551616 * ((s % 18446744073709551616 : Nat) : Int) = ((x % 18446744073709551616 * (s % 18446744073709551616) : Nat) : Int) := by simp
    rw [e, show (18446744073709551616 : Int) = ((18446744073709551616 : Nat) : Int) from rfl, ← Int.natCast_emod, ← Nat.mul_mod]
  rw [h]
  generalize x * s = z
  omega

theorem ref_uint_l0 : ∀ (k : Nat) (l : List Int) (at_ : Nat) (p s : List Int), 2 * s.length + 13 < k → (∀ x ∈ l, 0 ≤ x ∧ x < 256) → l.length ≤ 140737488351232 → l.drop at_ = p ++ s → (∀ y ∈ p, 128 ≤ y) → p.length ≤ 10 → at_ ≤ l.length →
    rubricref02_Uint.l0 k l (at_ : Int) ((val p % 18446744073709551616 : Nat) : Int) ((128 ^ p.length % 18446744073709551616 : Nat) : Int) (p.length : Int) =
      match dig 0 (p ++ s) with | none => some (0, 0, 3) | some (v, c) => some (((v : Nat) : Int), (at_ : Int) + ((c : Nat) : Int), (0 : Int)) := by
  intro k
  induction k using Nat.strongRecOn with
  | _ k ih =>
    intro l at_ p s hk hb hl hd hp hp10 hat
    obtain ⟨k, rfl⟩ : ∃ m, k = m + 2 := ⟨k - 2, by omega⟩
    have hlen : l.length = at_ + p.length + s.length := by
      have := congrArg List.length hd
      rw [List.length_drop, List.length_append] at this
      omega
    simp only [rubricref02_Uint.l0]
    by_cases h10 : p.length = 10
    · rw [if_neg (by omega), dig_long p s 0 hp (by omega) (by omega)]
      simp [rubricref02_Uint.j2]
    · rw [if_pos (by omega)]
      have hw : wrap64 ((at_ : Int) + (p.length : Int)) = ((at_ + p.length : Nat) : Int) := by unfold wrap64; omega
      have hw1 : wrap64 (((at_ + p.length : Nat) : Int) + 1) = ((at_ + p.length + 1 : Nat) : Int) := by unfold wrap64; omega
      have hw2 : wrap64 ((p.length : Int) + 1) = ((p.length + 1 : Nat) : Int) := by unfold wrap64; omega
      simp only [rubricref02_Uint.j2, hw, hw1, hw2]
      cases s with
      | nil =>
        simp only [List.length_nil, Nat.add_zero] at hlen
        rw [show decide (((at_ + p.length : Nat) : Int) < (l.length : Int)) = false from decide_eq_false (by omega), List.append_nil, dig_open p 0 hp]
        rfl
      | cons x r =>
        simp only [List.length_cons] at hlen hk
        have hx : x ∈ l := List.mem_of_mem_drop (i := at_) (by rw [hd]; simp)
        have hxb := hb x hx
        have hrd : rd l ((at_ + p.length : Nat) : Int) = x := by
          rw [rd_get _ _ (by omega)]
          have h2 : (l.drop at_)[p.length]? = some x := by rw [hd]; simp
          rw [List.getElem?_drop] at h2
          rw [List.getElem?_eq_getElem (by omega)] at h2
          exact Option.some.inj h2
        rw [show decide (((at_ + p.length : Nat) : Int) < (l.length : Int)) = true from decide_eq_true (by omega), if_pos rfl, if_pos (by omega), if_pos (by omega), hrd]
        have htm : Int.tmod x 128 = ((x.toNat % 128 : Nat) : Int) := by
          obtain ⟨m, rfl⟩ := Int.eq_ofNat_of_zero_le hxb.1
          rfl
        rw [htm, acc, ← val_snoc]
        by_cases hlt : x < 128
        · rw [if_pos hlt, ref_form_f (by omega) (Nat.mod_lt _ (by omega))]
          simp only [Option.bind_some]
          rw [if_pos (by omega), if_pos (by omega), if_pos (by omega)]
          have hcut : (l.take ((at_ + p.length + 1 : Nat) : Int).toNat).drop ((at_ : Nat) : Int).toNat = p ++ [x] := by
            rw [Int.toNat_natCast, Int.toNat_natCast, List.drop_take, hd, show at_ + p.length + 1 - at_ = (p ++ [x]).length by simp; omega, show p ++ x :: r = (p ++ [x]) ++ r by simp, List.take_left]
          rw [hcut]
          by_cases he : form (val (p ++ [x]) % 18446744073709551616) = p ++ [x]
          · rw [if_pos (by rw [he])]
            have hdf := dig_form (val (p ++ [x]) % 18446744073709551616) 0 r (Or.inl rfl) (by omega) (by simpa using Nat.mod_lt _ (by omega))
            rw [he] at hdf
            rw [show p ++ x :: r = (p ++ [x]) ++ r by simp, hdf]
            simp only [List.length_append, List.length_singleton, Option.some.injEq, Prod.mk.injEq, and_true, true_and]
            omega
          · rw [if_neg (fun h => he (str_inj (form_bytes _) (fun y hy => hb y (List.mem_of_mem_drop (i := at_) (by rw [hd]; simp at hy ⊢; rcases hy with hy | hy; exact Or.inl hy; exact Or.inr (Or.inl hy)))) h))]
            cases hdg : dig 0 (p ++ x :: r) with
            | none => rfl
            | some z =>
              obtain ⟨v, c⟩ := z
              obtain ⟨h1, h2⟩ := dig_val p x r 0 v c hp hxb.1 hlt hdg
              obtain ⟨g1, _, _, _, g5, _⟩ := dig_some _ 0 (fun y hy => hb y (List.mem_of_mem_drop (i := at_) (by rw [hd]; exact hy))) (by omega) v c hdg
              refine absurd ?_ he
              rw [← h1, Nat.mod_eq_of_lt (by simpa using g1), g5, h2, show p ++ x :: r = (p ++ [x]) ++ r by simp, show p.length + 1 = (p ++ [x]).length by simp, List.take_left]
        · rw [if_neg hlt]
          have hsc : IntKind.u64.wrap (((128 ^ p.length % 18446744073709551616 : Nat) : Int) * 128) = ((128 ^ (p ++ [x]).length % 18446744073709551616 : Nat) : Int) := by
            rw [IntKind.wrap_u64, List.length_append, List.length_singleton, Nat.pow_succ]
            generalize 128 ^ p.length = z
            omega
          have := ih k (by omega) l at_ (p ++ [x]) r (by omega) hb hl (by rw [hd]; simp) (fun y hy => by
            rcases List.mem_append.1 hy with hy | hy
            · exact hp y hy
            · have := List.mem_singleton.1 hy; omega) (by simp; omega) hat
          rw [hsc, show ((p.length + 1 : Nat) : Int) = ((p ++ [x]).length : Int) by simp, this, show p ++ x :: r = (p ++ [x]) ++ r by simp]

theorem ref_uint_f {k : Nat} {l : List Int} {at_ : Int} (hk : 2 * l.length + 20 < k) (hb : ∀ x ∈ l, 0 ≤ x ∧ x < 256) (hl : l.length ≤ 140737488351232) : rubricref02_Uint.f k l at_ = some (uint l at_) := by
  obtain ⟨k, rfl⟩ : ∃ m, k = m + 1 := ⟨k - 1, by omega⟩
  unfold rubricref02_Uint.f uint
  by_cases h0 : at_ < 0
  · rw [if_pos h0, if_pos (Or.inl h0)]; simp [rubricref02_Uint.j0]
  · rw [if_neg h0]
    by_cases h1 : at_ > l.length
    · rw [if_pos (Or.inr h1), show decide (at_ > (l.length : Int)) = true from decide_eq_true h1]; simp [rubricref02_Uint.j0]
    · rw [if_neg (by omega), show decide (at_ > (l.length : Int)) = false from decide_eq_false h1]
      obtain ⟨a, rfl⟩ := Int.eq_ofNat_of_zero_le (show 0 ≤ at_ by omega)
      simp only [rubricref02_Uint.j0, Bool.false_eq_true, if_false]
      have := ref_uint_l0 k l a [] (l.drop a) (by rw [List.length_drop]; omega) hb hl rfl (by simp) (by simp) (by omega)
      simp only [List.nil_append, List.length_nil, val, Nat.pow_zero] at this
      rw [show ((0 % 18446744073709551616 : Nat) : Int) = 0 from rfl, show ((1 % 18446744073709551616 : Nat) : Int) = 1 from rfl] at this
      rw [this, Int.toNat_natCast]
      cases dig 0 (l.drop a) with
      | none => rfl
      | some z => rfl
end Go.Proofs.Ytbmelglpcdidcaa.Ma
