-- plain facts: tame always answers, and what it tells
import Derived.Test.YtmjeoknamoegpaaTameA
namespace Go.Proofs.Ytmjeoknamoegpaa.P
open Go.RowKit Go.Proofs.YtmjeoknamoegpaaW.PrintWords Go.Proofs.YtmjeoknamoegpaaW.PrintLast Go.Proofs.YtmjeoknamoegpaaW.PrintMore
set_option linter.unusedVariables false
set_option linter.unusedSimpArgs false
theorem find_l0 (x0 : List S64) (x1 : Int) (hl : x0.length ≤ 20000) : ∀ (d : Nat) (i : Int) (k : Nat), 0 ≤ i → (x0.length : Int) - i ≤ d → d + 1 ≤ k → ∃ r, rubricref04_Find.l0 k x0 x1 i = some r
  | 0, i, k, h0, h1, hk => by
    obtain ⟨k, rfl⟩ : ∃ k', k = k' + 1 := ⟨k - 1, by omega⟩
    rw [rubricref04_Find.l0, if_neg (by omega)]
    exact ⟨_, rfl⟩
  | d + 1, i, k, h0, h1, hk => by
    obtain ⟨k, rfl⟩ : ∃ k', k = k' + 1 := ⟨k - 1, by omega⟩
    by_cases hlt : i < (x0.length : Int)
    · have ih := find_l0 x0 x1 hl d (wrap64 (i + 1)) k (by rw [w64 _ (by omega)]; omega) (by rw [w64 _ (by omega)]; omega) (by omega)
      obtain ⟨j, rfl⟩ : ∃ j : Nat, i = (j : Int) := ⟨i.toNat, by omega⟩
      rw [rubricref04_Find.l0, if_pos hlt, if_pos h0]
      split
      · exact ⟨_, rfl⟩
      · exact ih
    · rw [rubricref04_Find.l0, if_neg hlt]
      exact ⟨_, rfl⟩
theorem find_some (x0 : List S64) (x1 : Int) (hl : x0.length ≤ 20000) (k : Nat) (hk : 20001 ≤ k) : ∃ r, rubricref04_Find.f k x0 x1 = some r :=
  find_l0 x0 x1 hl x0.length 0 k (by omega) (by omega) (by omega)
theorem mayV_some (a b c : Int) (s : ByteArray) (h : s.size ≤ 20000) : ∃ r, rubricref03_May.f a b c s = some r := ⟨_, by unfold rubricref03_May.f; rw [if_pos h]⟩
theorem fits_some (x0 : List S64) (x1 a b c : Int) (s : ByteArray) (h : s.size ≤ 20000) (hl : x0.length ≤ 20000) (k : Nat) (hk : 20001 ≤ k) : ∃ r, rubricref04_Fits.f k x0 x1 a b c s = some r := by
  obtain ⟨r, hr⟩ := find_some x0 x1 hl k hk
  obtain ⟨m, hm⟩ := mayV_some a b c s h
  unfold rubricref04_Fits.f
  rw [hr, hm]
  simp only [Option.bind_some]
  split
  · split <;> exact ⟨_, rfl⟩
  · exact ⟨_, rfl⟩
theorem rising05_l0 (x0 : List S40) (hl : x0.length ≤ 20000) : ∀ (d : Nat) (i : Int) (k : Nat), 1 ≤ i → (x0.length : Int) - i ≤ d → d + 1 ≤ k → ∃ r, rubricref05_Rising.l0 k x0 i = some r
  | 0, i, k, h0, h1, hk => by
    obtain ⟨k, rfl⟩ : ∃ k', k = k' + 1 := ⟨k - 1, by omega⟩
    rw [rubricref05_Rising.l0, if_neg (by omega)]
    exact ⟨_, rfl⟩
  | d + 1, i, k, h0, h1, hk => by
    obtain ⟨k, rfl⟩ : ∃ k', k = k' + 1 := ⟨k - 1, by omega⟩
    by_cases hlt : i < (x0.length : Int)
    · have ih := rising05_l0 x0 hl d (wrap64 (i + 1)) k (by rw [w64 _ (by omega)]; omega) (by rw [w64 _ (by omega)]; omega) (by omega)
      rw [rubricref05_Rising.l0, if_pos hlt, if_pos (by rw [w64 _ (by omega)]; omega), if_pos (by rw [w64 _ (by omega)]; omega), if_pos (by omega)]
      split
      · exact ⟨_, rfl⟩
      · exact ih
    · rw [rubricref05_Rising.l0, if_neg hlt]
      exact ⟨_, rfl⟩
theorem rising05_some (x0 : List S40) (hl : x0.length ≤ 20000) (k : Nat) (hk : 20001 ≤ k) : ∃ r, rubricref05_Rising.f k x0 = some r :=
  rising05_l0 x0 hl x0.length 1 k (by omega) (by omega) (by omega)
theorem rising06_l0 (x0 : List S42) (hl : x0.length ≤ 20000) : ∀ (d : Nat) (i : Int) (k : Nat), 1 ≤ i → (x0.length : Int) - i ≤ d → d + 1 ≤ k → ∃ r, rubricref06_Rising.l0 k x0 i = some r
  | 0, i, k, h0, h1, hk => by
    obtain ⟨k, rfl⟩ : ∃ k', k = k' + 1 := ⟨k - 1, by omega⟩
    rw [rubricref06_Rising.l0, if_neg (by omega)]
    exact ⟨_, rfl⟩
  | d + 1, i, k, h0, h1, hk => by
    obtain ⟨k, rfl⟩ : ∃ k', k = k' + 1 := ⟨k - 1, by omega⟩
    by_cases hlt : i < (x0.length : Int)
    · have ih := rising06_l0 x0 hl d (wrap64 (i + 1)) k (by rw [w64 _ (by omega)]; omega) (by rw [w64 _ (by omega)]; omega) (by omega)
      rw [rubricref06_Rising.l0, if_pos hlt, if_pos (by rw [w64 _ (by omega)]; omega), if_pos (by rw [w64 _ (by omega)]; omega), if_pos (by omega)]
      split
      · exact ⟨_, rfl⟩
      · exact ih
    · rw [rubricref06_Rising.l0, if_neg hlt]
      exact ⟨_, rfl⟩
theorem rising06_some (x0 : List S42) (hl : x0.length ≤ 20000) (k : Nat) (hk : 20001 ≤ k) : ∃ r, rubricref06_Rising.f k x0 = some r :=
  rising06_l0 x0 hl x0.length 1 k (by omega) (by omega) (by omega)
theorem may05_l1 (x0 : List S64) (x1 : List S40) (hk0 : x0.length ≤ 20000) (hs : ∀ a ∈ x1, a.f1.f3.size ≤ 20000) (hl : x1.length ≤ 20000) : ∀ (d : Nat) (i : Int) (k : Nat), 0 ≤ i → (x1.length : Int) - i ≤ d → d + 20001 ≤ k → ∃ r, rubricref05_May.l1 k x0 x1 i = some r
  | 0, i, k, h0, h1, hk => by
    obtain ⟨k, rfl⟩ : ∃ k', k = k' + 1 := ⟨k - 1, by omega⟩
    rw [rubricref05_May.l1, if_neg (by omega)]
    exact ⟨_, rfl⟩
  | d + 1, i, k, h0, h1, hk => by
    obtain ⟨k, rfl⟩ : ∃ k', k = k' + 1 := ⟨k - 1, by omega⟩
    by_cases hlt : i < (x1.length : Int)
    · have ih := may05_l1 x0 x1 hk0 hs hl d (wrap64 (i + 1)) k (by rw [w64 _ (by omega)]; omega) (by rw [w64 _ (by omega)]; omega) (by omega)
      obtain ⟨j, rfl⟩ : ∃ j : Nat, i = (j : Int) := ⟨i.toNat, by omega⟩
      rw [rubricref05_May.l1, if_pos hlt, if_pos h0]
      have hm := hs (rd_T40 x1 (j : Int)) (by rw [rd40_at x1 j (by omega)]; exact List.getElem_mem _)
      obtain ⟨r, hr⟩ := fits_some x0 (rd_T40 x1 (j : Int)).f0 (rd_T40 x1 (j : Int)).f1.f0 (rd_T40 x1 (j : Int)).f1.f1 (rd_T40 x1 (j : Int)).f1.f2 (rd_T40 x1 (j : Int)).f1.f3 hm hk0 k (by omega)
      rw [hr, Option.bind_some]
      split
      · exact ih
      · exact ⟨_, rfl⟩
    · rw [rubricref05_May.l1, if_neg hlt]
      exact ⟨_, rfl⟩
theorem may05_l0 (x0 : List S64) (x1 : List S40) (hk0 : x0.length ≤ 20000) (hs : ∀ a ∈ x1, a.f1.f3.size ≤ 20000) (hl : x1.length ≤ 20000) : ∀ (d : Nat) (i : Int) (k : Nat), 0 ≤ i → (x1.length : Int) - i ≤ d → d + 40003 ≤ k → ∃ r, rubricref05_May.l0 k x0 x1 i = some r
  | 0, i, k, h0, h1, hk => by
    obtain ⟨k, rfl⟩ : ∃ k', k = k' + 1 := ⟨k - 1, by omega⟩
    rw [rubricref05_May.l0, if_neg (by omega)]
    exact may05_l1 x0 x1 hk0 hs hl x1.length 0 k (by omega) (by omega) (by omega)
  | d + 1, i, k, h0, h1, hk => by
    obtain ⟨k, rfl⟩ : ∃ k', k = k' + 1 := ⟨k - 1, by omega⟩
    by_cases hlt : i < (x1.length : Int)
    · have ih := may05_l0 x0 x1 hk0 hs hl d (wrap64 (i + 1)) k (by rw [w64 _ (by omega)]; omega) (by rw [w64 _ (by omega)]; omega) (by omega)
      obtain ⟨j, rfl⟩ : ∃ j : Nat, i = (j : Int) := ⟨i.toNat, by omega⟩
      rw [rubricref05_May.l0, if_pos hlt, if_pos h0]
      have hm := hs (rd_T40 x1 (j : Int)) (by rw [rd40_at x1 j (by omega)]; exact List.getElem_mem _)
      obtain ⟨r, hr⟩ := mayV_some (rd_T40 x1 (j : Int)).f1.f0 (rd_T40 x1 (j : Int)).f1.f1 (rd_T40 x1 (j : Int)).f1.f2 (rd_T40 x1 (j : Int)).f1.f3 hm
      rw [hr, Option.bind_some]
      split
      · exact ih
      · exact ⟨_, rfl⟩
    · rw [rubricref05_May.l0, if_neg hlt]
      exact may05_l1 x0 x1 hk0 hs hl x1.length 0 k (by omega) (by omega) (by omega)
theorem may05_j0 (x0 : List S64) (x1 : List S40) (hk0 : x0.length ≤ 20000) (hs : ∀ a ∈ x1, a.f1.f3.size ≤ 20000) (hl : x1.length ≤ 20000) (b : Bool) (k : Nat) (hk : 60010 ≤ k) : ∃ r, rubricref05_May.j0 k x0 x1 b = some r := by
  obtain ⟨k, rfl⟩ : ∃ k', k = k' + 1 := ⟨k - 1, by omega⟩
  rw [rubricref05_May.j0]
  split
  · exact ⟨_, rfl⟩
  · exact may05_l0 x0 x1 hk0 hs hl x1.length 0 k (by omega) (by omega) (by omega)
theorem may05_some (x0 : List S64) (x1 : List S40) (hk0 : x0.length ≤ 20000) (hs : ∀ a ∈ x1, a.f1.f3.size ≤ 20000) (hl : x1.length ≤ 20000) (k : Nat) (hk : 60010 ≤ k) : ∃ r, rubricref05_May.f k x0 x1 = some r := by
  obtain ⟨r, hr⟩ := rising05_some x1 hl k (by omega)
  unfold rubricref05_May.f
  rw [hr, Option.bind_some]
  split <;> exact may05_j0 x0 x1 hk0 hs hl _ k hk
theorem may06_l1 (x0 : List S64) (x1 : List S42) (hk0 : x0.length ≤ 20000) (hs : ∀ a ∈ x1, a.f2.f3.size ≤ 20000) (hl : x1.length ≤ 20000) : ∀ (d : Nat) (i : Int) (k : Nat), 0 ≤ i → (x1.length : Int) - i ≤ d → d + 20001 ≤ k → ∃ r, rubricref06_May.l1 k x0 x1 i = some r
  | 0, i, k, h0, h1, hk => by
    obtain ⟨k, rfl⟩ : ∃ k', k = k' + 1 := ⟨k - 1, by omega⟩
    rw [rubricref06_May.l1, if_neg (by omega)]
    exact ⟨_, rfl⟩
  | d + 1, i, k, h0, h1, hk => by
    obtain ⟨k, rfl⟩ : ∃ k', k = k' + 1 := ⟨k - 1, by omega⟩
    by_cases hlt : i < (x1.length : Int)
    · have ih := may06_l1 x0 x1 hk0 hs hl d (wrap64 (i + 1)) k (by rw [w64 _ (by omega)]; omega) (by rw [w64 _ (by omega)]; omega) (by omega)
      obtain ⟨j, rfl⟩ : ∃ j : Nat, i = (j : Int) := ⟨i.toNat, by omega⟩
      rw [rubricref06_May.l1, if_pos hlt, if_pos h0]
      have hm := hs (rd_T42 x1 (j : Int)) (by rw [rd42_at x1 j (by omega)]; exact List.getElem_mem _)
      obtain ⟨q, hq⟩ := find_some x0 (rd_T42 x1 (j : Int)).f0 hk0 k (by omega)
      obtain ⟨r, hr⟩ := fits_some x0 (rd_T42 x1 (j : Int)).f0 (rd_T42 x1 (j : Int)).f2.f0 (rd_T42 x1 (j : Int)).f2.f1 (rd_T42 x1 (j : Int)).f2.f2 (rd_T42 x1 (j : Int)).f2.f3 hm hk0 k (by omega)
      rw [hq, Option.bind_some, hr, Option.bind_some]
      split
      · split
        · exact ih
        · split
          · exact ih
          · exact ⟨_, rfl⟩
      · exact ⟨_, rfl⟩
    · rw [rubricref06_May.l1, if_neg hlt]
      exact ⟨_, rfl⟩
theorem may06_l0 (x0 : List S64) (x1 : List S42) (hk0 : x0.length ≤ 20000) (hs : ∀ a ∈ x1, a.f2.f3.size ≤ 20000) (hl : x1.length ≤ 20000) : ∀ (d : Nat) (i : Int) (k : Nat), 0 ≤ i → (x1.length : Int) - i ≤ d → d + 40003 ≤ k → ∃ r, rubricref06_May.l0 k x0 x1 i = some r
  | 0, i, k, h0, h1, hk => by
    obtain ⟨k, rfl⟩ : ∃ k', k = k' + 1 := ⟨k - 1, by omega⟩
    rw [rubricref06_May.l0, if_neg (by omega)]
    exact may06_l1 x0 x1 hk0 hs hl x1.length 0 k (by omega) (by omega) (by omega)
  | d + 1, i, k, h0, h1, hk => by
    obtain ⟨k, rfl⟩ : ∃ k', k = k' + 1 := ⟨k - 1, by omega⟩
    by_cases hlt : i < (x1.length : Int)
    · have ih := may06_l0 x0 x1 hk0 hs hl d (wrap64 (i + 1)) k (by rw [w64 _ (by omega)]; omega) (by rw [w64 _ (by omega)]; omega) (by omega)
      obtain ⟨j, rfl⟩ : ∃ j : Nat, i = (j : Int) := ⟨i.toNat, by omega⟩
      rw [rubricref06_May.l0, if_pos hlt, if_pos h0]
      have hm := hs (rd_T42 x1 (j : Int)) (by rw [rd42_at x1 j (by omega)]; exact List.getElem_mem _)
      obtain ⟨r, hr⟩ := mayV_some (rd_T42 x1 (j : Int)).f2.f0 (rd_T42 x1 (j : Int)).f2.f1 (rd_T42 x1 (j : Int)).f2.f2 (rd_T42 x1 (j : Int)).f2.f3 hm
      rw [hr, Option.bind_some]
      repeat' split
      all_goals first | exact ih | exact ⟨_, rfl⟩
    · rw [rubricref06_May.l0, if_neg hlt]
      exact may06_l1 x0 x1 hk0 hs hl x1.length 0 k (by omega) (by omega) (by omega)
theorem may06_j0 (x0 : List S64) (x1 : List S42) (hk0 : x0.length ≤ 20000) (hs : ∀ a ∈ x1, a.f2.f3.size ≤ 20000) (hl : x1.length ≤ 20000) (b : Bool) (k : Nat) (hk : 60010 ≤ k) : ∃ r, rubricref06_May.j0 k x0 x1 b = some r := by
  obtain ⟨k, rfl⟩ : ∃ k', k = k' + 1 := ⟨k - 1, by omega⟩
  rw [rubricref06_May.j0]
  split
  · exact ⟨_, rfl⟩
  · exact may06_l0 x0 x1 hk0 hs hl x1.length 0 k (by omega) (by omega) (by omega)
theorem may06_some (x0 : List S64) (x1 : List S42) (hk0 : x0.length ≤ 20000) (hs : ∀ a ∈ x1, a.f2.f3.size ≤ 20000) (hl : x1.length ≤ 20000) (k : Nat) (hk : 60010 ≤ k) : ∃ r, rubricref06_May.f k x0 x1 = some r := by
  obtain ⟨r, hr⟩ := rising06_some x1 hl k (by omega)
  unfold rubricref06_May.f
  rw [hr, Option.bind_some]
  split <;> exact may06_j0 x0 x1 hk0 hs hl _ k hk
theorem rune_some (a : Int) : ∃ b, rubricref01_May.f a = some b := may_some a
/-- What a well formed op is. -/
def OkO (o : S30) : Prop := (o.f0 = 1 ∧ o.f2 = [] ∧ o.f3 = [] ∧ 1 ≤ o.f1 ∧ o.f1 ≤ 536870912) ∨ (o.f0 = 3 ∧ o.f2 = [] ∧ o.f3 = [] ∧ o.f4 = [] ∧ 1 ≤ o.f1 ∧ o.f1 ≤ 536870912) ∨ (o.f0 = 2 ∧ o.f1 = 0 ∧ o.f4 = [] ∧ o.f2 ≠ [])
theorem nil_of {α : Type} {l : List α} (h : (l.length : Int) = 0) : l = [] := List.length_eq_zero_iff.1 (by omega)
theorem form_l0 (a b : Int) (l2 : List Int) (l3 : List S40) (l4 : List S42) (hl : l2.length ≤ 20000) : ∀ (d : Nat) (i : Int) (k : Nat), 0 ≤ i → (l2.length : Int) - i ≤ d → d + 1 ≤ k → ∃ r, rubricref15_form.l0 k i a b l2 l3 l4 = some r ∧ (r = true → b = 0 ∧ l4 = [] ∧ l2 ≠ [])
  | 0, i, k, h0, h1, hk => by
    obtain ⟨k, rfl⟩ : ∃ k', k = k' + 1 := ⟨k - 1, by omega⟩
    rw [rubricref15_form.l0, if_neg (by omega)]
    · by_cases h_1 : b = 0
      · by_cases h_2 : (l4.length : Int) = 0
        · by_cases h_3 : (l2.length : Int) ≥ 1
          · rw [if_pos h_1, if_pos h_2, if_pos h_3]; exact ⟨_, rfl, fun _ => ⟨h_1, nil_of h_2, fun h => by subst h; simp at h_3⟩⟩
          · rw [if_pos h_1, if_pos h_2, if_neg h_3]; exact ⟨_, rfl, fun h => by cases h⟩
        · rw [if_pos h_1, if_neg h_2]; exact ⟨_, rfl, fun h => by cases h⟩
      · rw [if_neg h_1]; exact ⟨_, rfl, fun h => by cases h⟩
  | d + 1, i, k, h0, h1, hk => by
    obtain ⟨k, rfl⟩ : ∃ k', k = k' + 1 := ⟨k - 1, by omega⟩
    by_cases hlt : i < (l2.length : Int)
    · have ih := form_l0 a b l2 l3 l4 hl d (wrap64 (i + 1)) k (by rw [w64 _ (by omega)]; omega) (by rw [w64 _ (by omega)]; omega) (by omega)
      obtain ⟨j, rfl⟩ : ∃ j : Nat, i = (j : Int) := ⟨i.toNat, by omega⟩
      rw [rubricref15_form.l0, if_pos hlt, if_pos h0]
      obtain ⟨m, hm⟩ := rune_some (rd l2 (j : Int))
      rw [hm, Option.bind_some]
      split
      · exact ih
      · exact ⟨_, rfl, fun h => by cases h⟩
    · rw [rubricref15_form.l0, if_neg hlt]
      by_cases h_1 : b = 0
      · by_cases h_2 : (l4.length : Int) = 0
        · by_cases h_3 : (l2.length : Int) ≥ 1
          · rw [if_pos h_1, if_pos h_2, if_pos h_3]; exact ⟨_, rfl, fun _ => ⟨h_1, nil_of h_2, fun h => by subst h; simp at h_3⟩⟩
          · rw [if_pos h_1, if_pos h_2, if_neg h_3]; exact ⟨_, rfl, fun h => by cases h⟩
        · rw [if_pos h_1, if_neg h_2]; exact ⟨_, rfl, fun h => by cases h⟩
      · rw [if_neg h_1]; exact ⟨_, rfl, fun h => by cases h⟩
theorem form_some (o : S30) (hl : o.f2.length ≤ 20000) (k : Nat) (hk : 20010 ≤ k) : ∃ r, rubricref15_form.f k o.f0 o.f1 o.f2 o.f3 o.f4 = some r ∧ (r = true → OkO o) := by
  unfold rubricref15_form.f
  by_cases h1 : o.f0 = 1
  · rw [if_pos h1]
    by_cases h2 : (o.f2.length : Int) = 0
    · by_cases h3 : (o.f3.length : Int) = 0
      · by_cases h4 : o.f1 ≥ 1
        · rw [if_pos h2, if_pos h3, if_pos h4]; exact ⟨_, rfl, fun h => .inl ⟨h1, nil_of h2, nil_of h3, h4, of_decide_eq_true h⟩⟩
        · rw [if_pos h2, if_pos h3, if_neg h4]; exact ⟨_, rfl, fun h => by cases h⟩
      · rw [if_pos h2, if_neg h3]; exact ⟨_, rfl, fun h => by cases h⟩
    · rw [if_neg h2]; exact ⟨_, rfl, fun h => by cases h⟩
  · rw [if_neg h1]
    by_cases h1' : o.f0 = 3
    · rw [if_pos h1']
      by_cases h2 : (o.f2.length : Int) = 0
      · by_cases h3 : (o.f3.length : Int) = 0
        · by_cases h5 : (o.f4.length : Int) = 0
          · by_cases h4 : o.f1 ≥ 1
            · rw [if_pos h2, if_pos h3, if_pos h5, if_pos h4]; exact ⟨_, rfl, fun h => .inr (.inl ⟨h1', nil_of h2, nil_of h3, nil_of h5, h4, of_decide_eq_true h⟩)⟩
            · rw [if_pos h2, if_pos h3, if_pos h5, if_neg h4]; exact ⟨_, rfl, fun h => by cases h⟩
          · rw [if_pos h2, if_pos h3, if_neg h5]; exact ⟨_, rfl, fun h => by cases h⟩
        · rw [if_pos h2, if_neg h3]; exact ⟨_, rfl, fun h => by cases h⟩
      · rw [if_neg h2]; exact ⟨_, rfl, fun h => by cases h⟩
    · rw [if_neg h1']
      by_cases h2 : o.f0 = 2
      · rw [if_pos h2]
        obtain ⟨r, hr, h⟩ := form_l0 o.f0 o.f1 o.f2 o.f3 o.f4 hl o.f2.length 0 k (by omega) (by omega) (by omega)
        exact ⟨r, hr, fun hr => .inr (.inr ⟨h2, h hr⟩)⟩
      · rw [if_neg h2]; exact ⟨_, rfl, fun h => by cases h⟩
theorem takes_l0 (x0 : List S30) (hl : x0.length ≤ 20000) : ∀ (d : Nat) (n i : Int) (k : Nat), 0 ≤ i → (x0.length : Int) - i ≤ d → d + 1 ≤ k → ∃ r, rubricref15_Takes.l0 k x0 n i = some r
  | 0, n, i, k, h0, h1, hk => by
    obtain ⟨k, rfl⟩ : ∃ k', k = k' + 1 := ⟨k - 1, by omega⟩
    rw [rubricref15_Takes.l0, if_neg (by omega)]
    exact ⟨_, rfl⟩
  | d + 1, n, i, k, h0, h1, hk => by
    obtain ⟨k, rfl⟩ : ∃ k', k = k' + 1 := ⟨k - 1, by omega⟩
    by_cases hlt : i < (x0.length : Int)
    · have ih := fun n => takes_l0 x0 hl d n (wrap64 (i + 1)) k (by rw [w64 _ (by omega)]; omega) (by rw [w64 _ (by omega)]; omega) (by omega)
      rw [rubricref15_Takes.l0, if_pos hlt, if_pos h0]
      split
      · exact ih _
      · exact ih _
    · rw [rubricref15_Takes.l0, if_neg hlt]
      exact ⟨_, rfl⟩
theorem takes_some (x0 : List S30) (hl : x0.length ≤ 20000) (k : Nat) (hk : 20001 ≤ k) : ∃ r, rubricref15_Takes.f k x0 = some r :=
  takes_l0 x0 hl x0.length 0 0 k (by omega) (by omega) (by omega)
theorem len_some (a b : Int) (c : List Int) (d : List S40) (e : List S42) : ∃ r, rubricref15_Len.f a b c d e = some r := by
  unfold rubricref15_Len.f
  split <;> exact ⟨_, rfl⟩
theorem makes_l0 (x0 : List S30) (hl : x0.length ≤ 20000) : ∀ (d : Nat) (n i : Int) (k : Nat), 0 ≤ i → (x0.length : Int) - i ≤ d → d + 1 ≤ k → ∃ r, rubricref15_Makes.l0 k x0 n i = some r
  | 0, n, i, k, h0, h1, hk => by
    obtain ⟨k, rfl⟩ : ∃ k', k = k' + 1 := ⟨k - 1, by omega⟩
    rw [rubricref15_Makes.l0, if_neg (by omega)]
    exact ⟨_, rfl⟩
  | d + 1, n, i, k, h0, h1, hk => by
    obtain ⟨k, rfl⟩ : ∃ k', k = k' + 1 := ⟨k - 1, by omega⟩
    by_cases hlt : i < (x0.length : Int)
    · have ih := fun n => makes_l0 x0 hl d n (wrap64 (i + 1)) k (by rw [w64 _ (by omega)]; omega) (by rw [w64 _ (by omega)]; omega) (by omega)
      rw [rubricref15_Makes.l0, if_pos hlt, if_pos h0]
      split
      · exact ih _
      · obtain ⟨r, hr⟩ := len_some (rd_T30 x0 i).f0 (rd_T30 x0 i).f1 (rd_T30 x0 i).f2 (rd_T30 x0 i).f3 (rd_T30 x0 i).f4
        rw [hr, Option.bind_some]
        exact ih _
    · rw [rubricref15_Makes.l0, if_neg hlt]
      exact ⟨_, rfl⟩
theorem makes_some (x0 : List S30) (hl : x0.length ≤ 20000) (k : Nat) (hk : 20001 ≤ k) : ∃ r, rubricref15_Makes.f k x0 = some r :=
  makes_l0 x0 hl x0.length 0 0 k (by omega) (by omega) (by omega)
theorem may15_l1 (x0 : List S64) (x1 : List S30) (hk0 : x0.length ≤ 20000) (hs : ∀ o ∈ x1, o.f2.length ≤ 20000 ∧ (o.f3.length ≤ 20000 ∧ ∀ a ∈ o.f3, a.f1.f3.size ≤ 20000) ∧ (o.f4.length ≤ 20000 ∧ ∀ a ∈ o.f4, a.f2.f3.size ≤ 20000)) (hl : x1.length ≤ 20000) : ∀ (d : Nat) (i : Int) (k : Nat), 0 ≤ i → (x1.length : Int) - i ≤ d → d + 60011 ≤ k → ∃ r, rubricref15_May.l1 k x0 x1 i = some r
  | 0, i, k, h0, h1, hk => by
    obtain ⟨k, rfl⟩ : ∃ k', k = k' + 1 := ⟨k - 1, by omega⟩
    rw [rubricref15_May.l1, if_neg (by omega)]
    exact ⟨_, rfl⟩
  | d + 1, i, k, h0, h1, hk => by
    obtain ⟨k, rfl⟩ : ∃ k', k = k' + 1 := ⟨k - 1, by omega⟩
    by_cases hlt : i < (x1.length : Int)
    · have ih := may15_l1 x0 x1 hk0 hs hl d (wrap64 (i + 1)) k (by rw [w64 _ (by omega)]; omega) (by rw [w64 _ (by omega)]; omega) (by omega)
      obtain ⟨j, rfl⟩ : ∃ j : Nat, i = (j : Int) := ⟨i.toNat, by omega⟩
      rw [rubricref15_May.l1, if_pos hlt, if_pos h0]
      have hm := hs (rd_T30 x1 (j : Int)) (by rw [rd30_at x1 j (by omega)]; exact List.getElem_mem _)
      obtain ⟨r, hr⟩ := may05_some x0 (rd_T30 x1 (j : Int)).f3 hk0 hm.2.1.2 hm.2.1.1 k (by omega)
      obtain ⟨q, hq⟩ := may06_some x0 (rd_T30 x1 (j : Int)).f4 hk0 hm.2.2.2 hm.2.2.1 k (by omega)
      rw [hr, Option.bind_some, hq, Option.bind_some]
      split
      · split
        · exact ih
        · exact ⟨_, rfl⟩
      · exact ⟨_, rfl⟩
    · rw [rubricref15_May.l1, if_neg hlt]
      exact ⟨_, rfl⟩
theorem may15_j1 (x0 : List S64) (x1 : List S30) (hk0 : x0.length ≤ 20000) (hs : ∀ o ∈ x1, o.f2.length ≤ 20000 ∧ (o.f3.length ≤ 20000 ∧ ∀ a ∈ o.f3, a.f1.f3.size ≤ 20000) ∧ (o.f4.length ≤ 20000 ∧ ∀ a ∈ o.f4, a.f2.f3.size ≤ 20000)) (hl : x1.length ≤ 20000) (b : Bool) (k : Nat) (hk : 80020 ≤ k) : ∃ r, rubricref15_May.j1 k x0 x1 b = some r := by
  obtain ⟨k, rfl⟩ : ∃ k', k = k' + 1 := ⟨k - 1, by omega⟩
  rw [rubricref15_May.j1]
  split
  · exact ⟨_, rfl⟩
  · exact may15_l1 x0 x1 hk0 hs hl x1.length 0 k (by omega) (by omega) (by omega)
theorem may15_end (x0 : List S64) (x1 : List S30) (hk0 : x0.length ≤ 20000) (hs : ∀ o ∈ x1, o.f2.length ≤ 20000 ∧ (o.f3.length ≤ 20000 ∧ ∀ a ∈ o.f3, a.f1.f3.size ≤ 20000) ∧ (o.f4.length ≤ 20000 ∧ ∀ a ∈ o.f4, a.f2.f3.size ≤ 20000)) (hl : x1.length ≤ 20000) (k : Nat) (hk : 80020 ≤ k) : ∃ r, ((rubricref15_Takes.f k x1).bind fun t215 => (if t215 > 536870912 then (rubricref15_May.j1 k x0 x1 true) else ((rubricref15_Makes.f k x1).bind fun t216 => (rubricref15_May.j1 k x0 x1 (decide (t216 > 536870912)))))) = some r := by
  obtain ⟨r, hr⟩ := takes_some x1 hl k (by omega)
  obtain ⟨q, hq⟩ := makes_some x1 hl k (by omega)
  rw [hr, Option.bind_some, hq, Option.bind_some]
  split <;> exact may15_j1 x0 x1 hk0 hs hl _ k hk
theorem may15_l0 (x0 : List S64) (x1 : List S30) (hk0 : x0.length ≤ 20000) (hs : ∀ o ∈ x1, o.f2.length ≤ 20000 ∧ (o.f3.length ≤ 20000 ∧ ∀ a ∈ o.f3, a.f1.f3.size ≤ 20000) ∧ (o.f4.length ≤ 20000 ∧ ∀ a ∈ o.f4, a.f2.f3.size ≤ 20000)) (hl : x1.length ≤ 20000) : ∀ (d : Nat) (i : Int) (k : Nat), 0 ≤ i → (x1.length : Int) - i ≤ d → d + 80021 ≤ k → ∃ r, rubricref15_May.l0 k x0 x1 i = some r ∧ (r = 0 → ∀ o ∈ x1.drop i.toNat, OkO o)
  | 0, i, k, h0, h1, hk => by
    obtain ⟨k, rfl⟩ : ∃ k', k = k' + 1 := ⟨k - 1, by omega⟩
    rw [rubricref15_May.l0, if_neg (by omega)]
    obtain ⟨r, hr⟩ := may15_end x0 x1 hk0 hs hl k (by omega)
    exact ⟨r, hr, fun _ o ho => by rw [List.drop_of_length_le (by omega)] at ho; cases ho⟩
  | d + 1, i, k, h0, h1, hk => by
    obtain ⟨k, rfl⟩ : ∃ k', k = k' + 1 := ⟨k - 1, by omega⟩
    by_cases hlt : i < (x1.length : Int)
    · have ih := may15_l0 x0 x1 hk0 hs hl d (wrap64 (i + 1)) k (by rw [w64 _ (by omega)]; omega) (by rw [w64 _ (by omega)]; omega) (by omega)
      obtain ⟨j, rfl⟩ : ∃ j : Nat, i = (j : Int) := ⟨i.toNat, by omega⟩
      rw [rubricref15_May.l0, if_pos hlt, if_pos h0]
      have hm := hs (rd_T30 x1 (j : Int)) (by rw [rd30_at x1 j (by omega)]; exact List.getElem_mem _)
      obtain ⟨f, hf, hok⟩ := form_some (rd_T30 x1 (j : Int)) hm.1 k (by omega)
      obtain ⟨r, hr⟩ := may05_some x0 (rd_T30 x1 (j : Int)).f3 hk0 hm.2.1.2 hm.2.1.1 k (by omega)
      obtain ⟨q, hq⟩ := may06_some x0 (rd_T30 x1 (j : Int)).f4 hk0 hm.2.2.2 hm.2.2.1 k (by omega)
      rw [hf, Option.bind_some, hr, Option.bind_some, hq, Option.bind_some]
      split
      · rename_i hf1
        split
        · exact ⟨_, rfl, fun h => by cases h⟩
        · split
          · exact ⟨_, rfl, fun h => by cases h⟩
          · obtain ⟨s, hs1, hs2⟩ := ih
            refine ⟨s, hs1, fun h0 o ho => ?_⟩
            have hj : j < x1.length := by omega
            rw [Int.toNat_natCast, List.drop_eq_getElem_cons hj] at ho
            rcases List.mem_cons.1 ho with rfl | ho
            · rw [rd30_at x1 j hj] at hok; exact hok hf1
            · refine hs2 h0 o ?_
              rw [w64 _ (by omega)]
              exact ho
      · exact ⟨_, rfl, fun h => by cases h⟩
    · rw [rubricref15_May.l0, if_neg hlt]
      obtain ⟨r, hr⟩ := may15_end x0 x1 hk0 hs hl k (by omega)
      exact ⟨r, hr, fun _ o ho => by rw [List.drop_of_length_le (by omega)] at ho; cases ho⟩
theorem may15_some (x0 : List S64) (x1 : List S30) (hk0 : x0.length ≤ 20000) (hs : ∀ o ∈ x1, o.f2.length ≤ 20000 ∧ (o.f3.length ≤ 20000 ∧ ∀ a ∈ o.f3, a.f1.f3.size ≤ 20000) ∧ (o.f4.length ≤ 20000 ∧ ∀ a ∈ o.f4, a.f2.f3.size ≤ 20000)) (hl : x1.length ≤ 20000) (k : Nat) (hk : 110021 ≤ k) : ∃ r, rubricref15_May.f k x0 x1 = some r ∧ (r = 0 → ∀ o ∈ x1, OkO o) := by
  have h := may15_l0 x0 x1 hk0 hs hl x1.length 0 k (by omega) (by omega) (by omega)
  unfold rubricref15_May.f
  simpa using h
theorem may04_l1 (x0 : List S64) (hl : x0.length ≤ 64) (i : Int) (hi0 : 0 ≤ i) (hi : i < x0.length) (a0 : Int) (a1 : Bool) (a2 : Int) (a3 a4 : Bool) (a5 : Int) (k0 : Nat) (H : ∀ k, k0 ≤ k → ∃ r, rubricref04_May.l0 k x0 (wrap64 (i + 1)) = some r) : ∀ (d : Nat) (j : Int) (k : Nat), 0 ≤ j → i - j ≤ d → k0 + d + 1 ≤ k → ∃ r, rubricref04_May.l1 k x0 i j a0 a1 a2 a3 a4 a5 = some r
  | 0, j, k, h0, h1, hk => by
    obtain ⟨k, rfl⟩ : ∃ k', k = k' + 1 := ⟨k - 1, by omega⟩
    rw [rubricref04_May.l1, if_neg (by omega)]
    exact H k (by omega)
  | d + 1, j, k, h0, h1, hk => by
    obtain ⟨k, rfl⟩ : ∃ k', k = k' + 1 := ⟨k - 1, by omega⟩
    by_cases hlt : j < i
    · have ih := may04_l1 x0 hl i hi0 hi a0 a1 a2 a3 a4 a5 k0 H d (wrap64 (j + 1)) k (by rw [w64 _ (by omega)]; omega) (by rw [w64 _ (by omega)]; omega) (by omega)
      rw [rubricref04_May.l1, if_pos hlt, if_pos h0, if_pos (by omega)]
      split
      · exact ⟨_, rfl⟩
      · exact ih
    · rw [rubricref04_May.l1, if_neg hlt]
      exact H k (by omega)
theorem may04_j1 (x0 : List S64) (hl : x0.length ≤ 64) (i : Int) (hi0 : 0 ≤ i) (hi : i < x0.length) (b : Bool) (a0 : Int) (a1 : Bool) (a2 : Int) (a3 a4 : Bool) (a5 : Int) (k0 : Nat) (H : ∀ k, k0 ≤ k → ∃ r, rubricref04_May.l0 k x0 (wrap64 (i + 1)) = some r) (k : Nat) (hk : k0 + 70 ≤ k) : ∃ r, rubricref04_May.j1 k x0 i b a0 a1 a2 a3 a4 a5 = some r := by
  obtain ⟨k, rfl⟩ : ∃ k', k = k' + 1 := ⟨k - 1, by omega⟩
  rw [rubricref04_May.j1]
  split
  · exact ⟨_, rfl⟩
  · exact may04_l1 x0 hl i hi0 hi a0 a1 a2 a3 a4 a5 k0 H 64 0 k (by omega) (by omega) (by omega)
theorem may04_l0 (x0 : List S64) (hl : x0.length ≤ 64) : ∀ (d : Nat) (i : Int) (k : Nat), 0 ≤ i → (x0.length : Int) - i ≤ d → 80 * d + 1 ≤ k → ∃ r, rubricref04_May.l0 k x0 i = some r
  | 0, i, k, h0, h1, hk => by
    obtain ⟨k, rfl⟩ : ∃ k', k = k' + 1 := ⟨k - 1, by omega⟩
    rw [rubricref04_May.l0, if_neg (by omega)]
    exact ⟨_, rfl⟩
  | d + 1, i, k, h0, h1, hk => by
    obtain ⟨k, rfl⟩ : ∃ k', k = k' + 1 := ⟨k - 1, by omega⟩
    by_cases hlt : i < (x0.length : Int)
    · have hj := fun b => may04_j1 x0 hl i h0 hlt b (rd_T64 x0 i).f0 (rd_T64 x0 i).f1 (rd_T64 x0 i).f2 (rd_T64 x0 i).f3 (rd_T64 x0 i).f4 (rd_T64 x0 i).f5 (80 * d + 1) (fun k hk => may04_l0 x0 hl d (wrap64 (i + 1)) k (by rw [w64 _ (by omega)]; omega) (by rw [w64 _ (by omega)]; omega) hk) k (by omega)
      rw [rubricref04_May.l0, if_pos hlt, if_pos h0]
      generalize (rd_T64 x0 i) = z at hj ⊢
      repeat' split
      all_goals exact hj _
    · rw [rubricref04_May.l0, if_neg hlt]
      exact ⟨_, rfl⟩
theorem may04_some (x0 : List S64) (k : Nat) (hk : 6000 ≤ k) : ∃ r, rubricref04_May.f k x0 = some r := by
  unfold rubricref04_May.f
  split
  · exact ⟨_, rfl⟩
  · exact may04_l0 x0 (by omega) x0.length 0 k (by omega) (by omega) (by omega)
/-- The input is tame. -/
theorem tame_some (keys : List S64) (x : List S30) (h : sz x ≤ 2000000) (k : Nat) (hk : 6000002 ≤ k) : ∃ r, rubriclaw16_tame.f k keys x = some r ∧ (r = true → sz x ≤ 20000 ∧ ∀ o ∈ x, OkO o) := by
  unfold rubriclaw16_tame.f
  obtain ⟨k, rfl⟩ : ∃ k', k = k' + 1 := ⟨k - 1, by omega⟩
  split
  · rw [rubriclaw16_tame.j0, if_pos rfl]; exact ⟨_, rfl, fun h => by cases h⟩
  · rename_i hkl
    rw [size_eq x h _ (by omega), Option.bind_some, rubriclaw16_tame.j0]
    by_cases hs : (sz x : Int) > 20000
    · rw [if_pos (decide_eq_true hs)]; exact ⟨_, rfl, fun h => by cases h⟩
    · rw [if_neg (by simp [hs])]
      obtain ⟨r, hr⟩ := may04_some keys k (by omega)
      have hlx := len_sz x
      obtain ⟨q, hq, hqo⟩ := may15_some keys x (by omega) (fun o ho => by
        have h1 := sz_mem ho
        have hO : szO o = 1 + o.f2.length + o.f3.length + o.f4.length + strA o.f3 + strC o.f4 := rfl
        refine ⟨by omega, ⟨by omega, fun a ha => ?_⟩, by omega, fun a ha => ?_⟩
        · have := strA_mem ha; omega
        · have := strC_mem ha; omega) (by omega) k (by omega)
      rw [hr, Option.bind_some, hq, Option.bind_some]
      split
      · exact ⟨_, rfl, fun h => ⟨by omega, hqo (by simpa using h)⟩⟩
      · exact ⟨_, rfl, fun h => by cases h⟩
end Go.Proofs.Ytmjeoknamoegpaa.P
