/- Plain lemmas on reading bytes and whole numbers. No program is in sight. -/
import Derived.Test.YtbmelglpcdidcaaMa
namespace Go.Proofs.Ytbmelglpcdidcaa.Ma
set_option linter.unusedVariables false
open Go.RowKit Go.Proofs.Ytbmelglpcdidcaa.P Go.Proofs.YtbmelglpcdidcaaW.PrintWords Go.Proofs.YtbmelglpcdidcaaW.PrintLast Go.Proofs.YtbmelglpcdidcaaW.PrintMore

/-- what Bytes answers -/
def bytes (l : List Int) (at_ most : Int) : List Int × Int × Int :=
  if (uint l at_).2.2 = 0 then
    if most < 0 ∨ (uint l at_).1 > most ∨ (uint l at_).1 > (l.length : Int) - (uint l at_).2.1 then ([], 0, 3)
    else ((l.take ((uint l at_).2.1 + (uint l at_).1).toNat).drop (uint l at_).2.1.toNat, (uint l at_).2.1 + (uint l at_).1, 0)
  else ([], 0, (uint l at_).2.2)
theorem bytes_f {k : Nat} {l : List Int} {at_ most : Int} (hk : 2 * l.length + 2 < k) (hb : ∀ x ∈ l, 0 ≤ x ∧ x < 256) (hl : l.length ≤ 140737488351232) (hm : -9223372036854775808 ≤ most ∧ most ≤ 9223372036854775807) :
    wire_Bytes.f k l at_ most = some (bytes l at_ most) := by
  unfold wire_Bytes.f bytes
  rw [uint_f hk hb hl]
  simp only [Option.bind_some]
  obtain ⟨v, nx, e, hu⟩ : ∃ v nx e, uint l at_ = (v, nx, e) := ⟨_, _, _, rfl⟩
  rw [hu]
  simp only
  by_cases he : e = 0
  · subst he
    obtain ⟨g1, g2, g3, g4, g5, g6, g7, g8⟩ := uint_some hb hu
    rw [if_pos rfl, if_pos rfl]
    have hw1 : IntKind.u64.wrap (wrap64 ((l.length : Int) - nx)) = (l.length : Int) - nx := by rw [IntKind.wrap_u64]; unfold wrap64; omega
    rw [hw1]
    by_cases h1 : most < 0
    · rw [if_pos h1, if_pos (Or.inl h1)]
    · have hw2 : IntKind.u64.wrap most = most := by rw [IntKind.wrap_u64]; omega
      rw [if_neg h1, hw2]
      by_cases h2 : v > most
      · rw [if_pos h2, if_pos (Or.inr (Or.inl h2))]
      · rw [if_neg h2]
        by_cases h3 : v > (l.length : Int) - nx
        · rw [if_pos h3, if_pos (Or.inr (Or.inr h3))]
        · have hw3 : wrap64 (nx + wrap64 v) = nx + v := by unfold wrap64; omega
          rw [if_neg h3, hw3, if_pos (by omega), if_pos (by omega), if_pos (by omega), clone_f _ (by rw [List.length_drop, List.length_take]; omega), if_neg (by omega)]
          rfl
  · rw [if_neg he, if_neg he]
/-- a form of bytes that stands there is read, if they are no more than most -/
theorem bytes_form (p x r : List Int) (most : Int) (hx : x.length ≤ 140737488351232) : bytes (p ++ form x.length ++ x ++ r) (p.length : Int) most =
    if most < x.length then ([], 0, 3) else (x, (p.length : Int) + (form x.length).length + x.length, 0) := by
  have h := uint_form p (x ++ r) x.length (by omega)
  rw [← List.append_assoc] at h
  unfold bytes
  rw [h]
  simp only
  rw [if_pos trivial]
  by_cases h1 : most < x.length
  · rw [if_pos (by omega), if_pos h1]
  · rw [if_neg (by simp only [List.length_append]; omega), if_neg h1]
    have e1 : ((p.length : Int) + (form x.length).length).toNat = (p ++ form x.length).length := by simp; omega
    have e2 : ((p.length : Int) + (form x.length).length + (x.length : Int)).toNat = (p ++ form x.length ++ x).length := by simp; omega
    rw [e1, e2, List.take_left, List.drop_left]
theorem bytes_res {l : List Int} {at_ most : Int} (hb : ∀ x ∈ l, 0 ≤ x ∧ x < 256) : ∀ x ∈ (bytes l at_ most).1, 0 ≤ x ∧ x < 256 := by
  unfold bytes
  intro x hx
  split at hx
  · split at hx
    · cases hx
    · exact hb x (List.mem_of_mem_take (List.mem_of_mem_drop hx))
  · cases hx

/-- the whole number of a natural one -/
def zag (a : Int) : Int := if a % 2 = 0 then a / 2 else -(a / 2) - 1
theorem i64_xor_ones (a : Int) (h0 : 0 ≤ a) (h1 : a < 9223372036854775808) : Go.bits .xor .i64 a (-1) = -a - 1 := by
  obtain ⟨n, rfl⟩ := Int.eq_ofNat_of_zero_le h0
  show IntKind.i64.wrap ((BitVec.ofInt 64 (n : Int) ^^^ BitVec.ofInt 64 (-1)).toNat : Int) = _
  have e : BitVec.ofInt 64 (-1) = BitVec.allOnes 64 := by decide
  rw [e, BitVec.xor_allOnes, BitVec.toNat_not, BitVec.ofInt_natCast, BitVec.toNat_ofNat, Nat.mod_eq_of_lt (by omega), IntKind.wrap_i64]
  omega
theorem i64_xor_nought (a : Int) (h0 : 0 ≤ a) (h1 : a < 9223372036854775808) : Go.bits .xor .i64 a 0 = a := by
  obtain ⟨n, rfl⟩ := Int.eq_ofNat_of_zero_le h0
  show IntKind.i64.wrap ((BitVec.ofInt 64 (n : Int) ^^^ BitVec.ofInt 64 0).toNat : Int) = _
  have e : BitVec.ofInt 64 0 = 0#64 := by decide
  rw [e, BitVec.xor_zero, BitVec.ofInt_natCast, BitVec.toNat_ofNat, Nat.mod_eq_of_lt (by omega), IntKind.wrap_i64]
  omega
theorem zag_f {a : Int} (h0 : 0 ≤ a) (h1 : a < 18446744073709551616) : wire_zag.f a = some (zag a) := by
  unfold wire_zag.f zag
  obtain ⟨n, rfl⟩ := Int.eq_ofNat_of_zero_le h0
  rw [show (1 : Int) = ((1 : Nat) : Int) from rfl, u64_and_nat n 1 (by omega) (by omega), nat_mask1]
  have e1 : wrap64 ((n : Int) / 2) = ((n / 2 : Nat) : Int) := by unfold wrap64; omega
  rw [e1]
  by_cases h : n % 2 = 0
  · rw [h, if_pos (by omega)]
    have e2 : wrap64 (-wrap64 (((0 : Nat)) : Int)) = 0 := by unfold wrap64; omega
    rw [e2, i64_xor_nought _ (by omega) (by omega)]
    congr 1
  · have h' : n % 2 = 1 := by omega
    rw [h', if_neg (by omega)]
    have e2 : wrap64 (-wrap64 (((1 : Nat)) : Int)) = -1 := by unfold wrap64; omega
    rw [e2, i64_xor_ones _ (by omega) (by omega)]
    congr 1
theorem zag_zig (n : Int) : zag ((zig n : Nat) : Int) = n := by
  unfold zag zig
  by_cases h : 0 ≤ n
  · rw [if_pos h, if_pos (by omega)]; omega
  · rw [if_neg h, if_neg (by omega)]; omega
theorem int_f {k : Nat} {l : List Int} {at_ : Int} (hk : 2 * l.length + 2 < k) (hb : ∀ x ∈ l, 0 ≤ x ∧ x < 256) (hl : l.length ≤ 140737488351232) : wire_Int.f k l at_ = some (zag (uint l at_).1, (uint l at_).2) := by
  unfold wire_Int.f
  rw [uint_f hk hb hl]
  simp only [Option.bind_some]
  obtain ⟨v, nx, e, hu⟩ : ∃ v nx e, uint l at_ = (v, nx, e) := ⟨_, _, _, rfl⟩
  rw [hu]
  simp only
  have hv : 0 ≤ v ∧ v < 18446744073709551616 := by
    by_cases he : e = 0
    · subst he
      obtain ⟨g1, g2, g3, g4, _⟩ := uint_some hb hu
      exact ⟨g3, g4⟩
    · have := ((uint_err hu).2.1 he).1
      omega
  rw [zag_f hv.1 hv.2]
  rfl
theorem appBytes_f {k : Nat} {xs x : List Int} (hk : 10 ≤ k) (hl : xs.length + x.length ≤ 140737488351232) : wire_AppendBytes.f k xs x = some (xs ++ form x.length ++ x) := by
  unfold wire_AppendBytes.f
  have hw : IntKind.u64.wrap (x.length : Int) = (x.length : Int) := by rw [IntKind.wrap_u64]; omega
  rw [hw, app_f hk (by omega) (by omega)]
  simp only [Option.bind_some]
  have := form_le10 (n := x.length) (by omega)
  rw [if_pos (by simp only [List.length_append]; omega)]
end Go.Proofs.Ytbmelglpcdidcaa.Ma
