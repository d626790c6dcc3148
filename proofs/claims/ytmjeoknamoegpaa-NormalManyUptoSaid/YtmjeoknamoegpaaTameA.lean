-- plain facts: what tame reads always answers (sizes, schema, attributes)
import Derived.Test.YtmjeoknamoegpaaPx11
namespace Go.Proofs.Ytmjeoknamoegpaa.P
open Go.RowKit Go.Proofs.YtmjeoknamoegpaaW.PrintWords Go.Proofs.YtmjeoknamoegpaaW.PrintLast Go.Proofs.YtmjeoknamoegpaaW.PrintMore
set_option linter.unusedVariables false
set_option linter.unusedSimpArgs false
def strA (l : List S40) : Nat := (l.map fun a => a.f1.f3.size).sum
def strC (l : List S42) : Nat := (l.map fun a => a.f2.f3.size).sum
def szO (o : S30) : Nat := 1 + o.f2.length + o.f3.length + o.f4.length + strA o.f3 + strC o.f4
def sz (l : List S30) : Nat := (l.map szO).sum
def stp (l : List S30) : Nat := (l.map fun o => 3 + o.f3.length + o.f4.length).sum
theorem strA_cons (a : S40) (l : List S40) : strA (a :: l) = a.f1.f3.size + strA l := by simp [strA]
theorem strC_cons (a : S42) (l : List S42) : strC (a :: l) = a.f2.f3.size + strC l := by simp [strC]
theorem sz_cons (a : S30) (l : List S30) : sz (a :: l) = szO a + sz l := by simp [sz]
theorem stp_cons (a : S30) (l : List S30) : stp (a :: l) = 3 + a.f3.length + a.f4.length + stp l := by simp [stp]
theorem rd30_at (a : List S30) (i : Nat) (h : i < a.length) : rd_T30 a (i : Int) = a[i] := by simp [rd_T30, h]
theorem rd40_at (a : List S40) (i : Nat) (h : i < a.length) : rd_T40 a (i : Int) = a[i] := by simp [rd_T40, h]
theorem rd42_at (a : List S42) (i : Nat) (h : i < a.length) : rd_T42 a (i : Int) = a[i] := by simp [rd_T42, h]
theorem w64 (n : Int) (h : -9223372036854775808 ≤ n ∧ n ≤ 9223372036854775807) : wrap64 n = n := by unfold wrap64; omega
theorem size_l2 (x0 : List S30) (i : Nat) (hi : i < x0.length) (hsm : x0.length ≤ 4000000) : ∀ (d j : Nat) (n : Int) (k : Nat), x0[i].f4.length - j = d → j ≤ x0[i].f4.length → x0[i].f4.length ≤ 4000000 → 0 ≤ n → n + strC (x0[i].f4.drop j) ≤ 4611686018427387904 →
    rubricref15_Size.l2 (k + d + 1) x0 n (i : Int) (j : Int) = rubricref15_Size.l0 k x0 (n + strC (x0[i].f4.drop j)) ((i + 1 : Nat) : Int)
  | 0, j, n, k, hd, hj, hl, h0, hn => by
    have e : j = x0[i].f4.length := by omega
    rw [rubricref15_Size.l2, rd30_at x0 i hi, if_pos (by omega), if_pos (by omega), if_neg (by omega), w64 _ (by omega), e, List.drop_length]
    simp [strC]
  | d + 1, j, n, k, hd, hj, hl, h0, hn => by
    have hlt : j < x0[i].f4.length := by omega
    have hdr : x0[i].f4.drop j = x0[i].f4[j] :: x0[i].f4.drop (j + 1) := List.drop_eq_getElem_cons hlt
    have hs : strC (x0[i].f4.drop j) = x0[i].f4[j].f2.f3.size + strC (x0[i].f4.drop (j + 1)) := by rw [hdr, strC_cons]
    have ih := size_l2 x0 i hi hsm d (j + 1) (n + x0[i].f4[j].f2.f3.size) k (by omega) (by omega) hl (by omega) (by omega)
    rw [rubricref15_Size.l2, rd30_at x0 i hi, if_pos (by omega), if_pos (by omega), if_pos (by omega), if_pos (by omega), rd42_at _ j hlt, w64 _ (by omega), w64 _ (by omega), hs]
    have e2 : (j : Int) + 1 = ((j + 1 : Nat) : Int) := by omega
    have e3 : n + ((x0[i].f4[j].f2.f3.size + strC (x0[i].f4.drop (j + 1)) : Nat) : Int) = n + (x0[i].f4[j].f2.f3.size : Int) + (strC (x0[i].f4.drop (j + 1)) : Int) := by omega
    rw [e2, e3]
    exact ih
theorem size_l1 (x0 : List S30) (i : Nat) (hi : i < x0.length) (hsm : x0.length ≤ 4000000) : ∀ (d j : Nat) (n : Int) (k : Nat), x0[i].f3.length - j = d → j ≤ x0[i].f3.length → x0[i].f3.length ≤ 4000000 → 0 ≤ n → n + strA (x0[i].f3.drop j) ≤ 4611686018427387904 →
    rubricref15_Size.l1 (k + d + 1) x0 n (i : Int) (j : Int) = rubricref15_Size.l2 k x0 (n + strA (x0[i].f3.drop j)) (i : Int) 0
  | 0, j, n, k, hd, hj, hl, h0, hn => by
    have e : j = x0[i].f3.length := by omega
    rw [rubricref15_Size.l1, rd30_at x0 i hi, if_pos (by omega), if_pos (by omega), if_neg (by omega), e, List.drop_length]
    simp [strA]
  | d + 1, j, n, k, hd, hj, hl, h0, hn => by
    have hlt : j < x0[i].f3.length := by omega
    have hdr : x0[i].f3.drop j = x0[i].f3[j] :: x0[i].f3.drop (j + 1) := List.drop_eq_getElem_cons hlt
    have hs : strA (x0[i].f3.drop j) = x0[i].f3[j].f1.f3.size + strA (x0[i].f3.drop (j + 1)) := by rw [hdr, strA_cons]
    have ih := size_l1 x0 i hi hsm d (j + 1) (n + x0[i].f3[j].f1.f3.size) k (by omega) (by omega) hl (by omega) (by omega)
    rw [rubricref15_Size.l1, rd30_at x0 i hi, if_pos (by omega), if_pos (by omega), if_pos (by omega), if_pos (by omega), rd40_at _ j hlt, w64 _ (by omega), w64 _ (by omega), hs]
    have e2 : (j : Int) + 1 = ((j + 1 : Nat) : Int) := by omega
    have e3 : n + ((x0[i].f3[j].f1.f3.size + strA (x0[i].f3.drop (j + 1)) : Nat) : Int) = n + (x0[i].f3[j].f1.f3.size : Int) + (strA (x0[i].f3.drop (j + 1)) : Int) := by omega
    rw [e2, e3]
    exact ih
theorem size_l0 (x0 : List S30) (hsm : x0.length ≤ 4000000) : ∀ (d i : Nat) (n : Int) (k : Nat), x0.length - i = d → i ≤ x0.length → 0 ≤ n → n + sz (x0.drop i) ≤ 4000000 → stp (x0.drop i) < k → rubricref15_Size.l0 k x0 n (i : Int) = some (n + sz (x0.drop i))
  | 0, i, n, k, hd, hi, h0, hn, hk => by
    obtain ⟨k, rfl⟩ : ∃ k', k = k' + 1 := ⟨k - 1, by omega⟩
    rw [rubricref15_Size.l0, if_neg (by omega), List.drop_of_length_le (by omega)]
    simp [sz]
  | d + 1, i, n, k, hd, hi, h0, hn, hk => by
    have hlt : i < x0.length := by omega
    have hdr : x0.drop i = x0[i] :: x0.drop (i + 1) := List.drop_eq_getElem_cons hlt
    have hs : sz (x0.drop i) = szO x0[i] + sz (x0.drop (i + 1)) := by rw [hdr, sz_cons]
    have ht : stp (x0.drop i) = 3 + x0[i].f3.length + x0[i].f4.length + stp (x0.drop (i + 1)) := by rw [hdr, stp_cons]
    have hO : szO x0[i] = 1 + x0[i].f2.length + x0[i].f3.length + x0[i].f4.length + strA x0[i].f3 + strC x0[i].f4 := rfl
    obtain ⟨k, rfl⟩ : ∃ k', k = (k' + x0[i].f4.length + 1) + x0[i].f3.length + 1 + 1 := ⟨k - (x0[i].f3.length + x0[i].f4.length + 3), by omega⟩
    have h1 := size_l1 x0 i hlt hsm x0[i].f3.length 0 (n + 1 + x0[i].f2.length + x0[i].f3.length + x0[i].f4.length) (k + x0[i].f4.length + 1) (by omega) (by omega) (by omega) (by omega) (by rw [List.drop_zero]; omega)
    have h2 := size_l2 x0 i hlt hsm x0[i].f4.length 0 (n + 1 + x0[i].f2.length + x0[i].f3.length + x0[i].f4.length + strA x0[i].f3) k (by omega) (by omega) (by omega) (by omega) (by rw [List.drop_zero]; omega)
    have ih := size_l0 x0 hsm d (i + 1) (n + szO x0[i]) k (by omega) (by omega) (by omega) (by omega) (by omega)
    rw [List.drop_zero] at h1 h2
    rw [rubricref15_Size.l0, if_pos (by omega), if_pos (by omega), rd30_at x0 i hlt, w64 (n + 1) (by omega), w64 (n + 1 + _) (by omega), w64 (n + 1 + (x0[i].f2.length : Int) + _) (by omega), w64 (n + 1 + (x0[i].f2.length : Int) + (x0[i].f3.length : Int) + _) (by omega)]
    have e0 : ((0 : Nat) : Int) = 0 := rfl
    rw [e0] at h1 h2
    rw [h1, h2, show n + 1 + (x0[i].f2.length : Int) + (x0[i].f3.length : Int) + (x0[i].f4.length : Int) + (strA x0[i].f3 : Int) + (strC x0[i].f4 : Int) = n + (szO x0[i] : Int) from by omega, ih, hs]
    congr 1
    omega
theorem stp_le (l : List S30) : stp l ≤ 3 * sz l := by
  induction l with
  | nil => simp [stp, sz]
  | cons o l ih =>
    have h1 : stp (o :: l) = 3 + o.f3.length + o.f4.length + stp l := by simp [stp]
    have h2 : sz (o :: l) = szO o + sz l := by simp [sz]
    have hO : szO o = 1 + o.f2.length + o.f3.length + o.f4.length + strA o.f3 + strC o.f4 := rfl
    omega
theorem len_sz (l : List S30) : l.length ≤ sz l := by
  induction l with
  | nil => simp
  | cons o l ih =>
    have h2 : sz (o :: l) = szO o + sz l := by simp [sz]
    have hO : szO o = 1 + o.f2.length + o.f3.length + o.f4.length + strA o.f3 + strC o.f4 := rfl
    simp only [List.length_cons]
    omega
theorem size_eq (x : List S30) (h : sz x ≤ 2000000) (k : Nat) (hk : 6000001 ≤ k) : rubricref15_Size.f k x = some (sz x : Int) := by
  have h1 := len_sz x
  have h2 := stp_le x
  have := size_l0 x (by omega) x.length 0 0 k (by omega) (by omega) (by omega) (by rw [List.drop_zero]; omega) (by rw [List.drop_zero]; omega)
  rw [List.drop_zero] at this
  unfold rubricref15_Size.f
  rw [show (0 : Int) = ((0 : Nat) : Int) from rfl] at *
  rw [this]
  simp
theorem sz_mem {l : List S30} {o : S30} (h : o ∈ l) : szO o ≤ sz l := by
  induction l with
  | nil => cases h
  | cons x l ih =>
    have h2 : sz (x :: l) = szO x + sz l := by simp [sz]
    rcases List.mem_cons.1 h with rfl | h
    · omega
    · have := ih h; omega
theorem strA_mem {l : List S40} {a : S40} (h : a ∈ l) : a.f1.f3.size ≤ strA l := by
  induction l with
  | nil => cases h
  | cons x l ih =>
    have h2 : strA (x :: l) = x.f1.f3.size + strA l := by simp [strA]
    rcases List.mem_cons.1 h with rfl | h
    · omega
    · have := ih h; omega
theorem strC_mem {l : List S42} {a : S42} (h : a ∈ l) : a.f2.f3.size ≤ strC l := by
  induction l with
  | nil => cases h
  | cons x l ih =>
    have h2 : strC (x :: l) = x.f2.f3.size + strC l := by simp [strC]
    rcases List.mem_cons.1 h with rfl | h
    · omega
    · have := ih h; omega
end Go.Proofs.Ytmjeoknamoegpaa.P
