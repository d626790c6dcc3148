import Derived.Test.YtpnoeggnniagfaaPureBlocksCuts
import Derived.Test.YtpnoeggnniagfaaPx7
namespace Go.Proofs.Ytpnoeggnniagfaa.P
open Go.RowKit Go.Proofs.YtpnoeggnniagfaaW.PrintWords Go.Proofs.YtpnoeggnniagfaaW.PrintLast Go.Proofs.YtpnoeggnniagfaaW.PrintMore
set_option linter.unusedVariables false
theorem join_l0 (a b y : List S26) (ha : a.length ≤ 250) (hb : b.length ≤ 250) (hy : y = a ++ b) : ∀ (k i : Nat), i ≤ y.length → y.length - i + 2000 ≤ k →
    (∀ j (hj : j < y.length), j < i → (y[j]).f1.length ≤ 30) → rubriclaw12_BlocksJoin.l0 k a b y (y.length : Int) (i : Int) = some true
  | 0, i, _, hk, _ => by omega
  | k + 1, i, hi, hk, hp => by
    have hyl : y.length = a.length + b.length := by rw [hy, List.length_append]
    unfold rubriclaw12_BlocksJoin.l0
    by_cases h : i < y.length
    · rw [if_pos (by omega), if_pos (by omega), if_pos (by omega), rd26_get y i h]
      by_cases h30 : ((y[i]).f1.length : Int) > 30
      · rw [if_pos h30]; rfl
      · rw [if_neg h30, wrap64_succ i (by omega)]
        exact join_l0 a b y ha hb hy k (i + 1) (by omega) (by omega) (fun j hj hji => by
          rcases Nat.lt_or_ge j i with h1 | h1
          · exact hp j hj h1
          · obtain rfl : j = i := by omega
            omega)
    · have hc : ∀ c ∈ y, c.f1.length ≤ 30 := fun c hcm => by
        obtain ⟨j, hj, rfl⟩ := List.getElem_of_mem hcm
        exact hp j hj (by omega)
      have hca : ∀ c ∈ a, c.f1.length ≤ 30 := fun c hcm => hc c (by rw [hy]; exact List.mem_append_left _ hcm)
      have hcb : ∀ c ∈ b, c.f1.length ≤ 30 := fun c hcm => hc c (by rw [hy]; exact List.mem_append_right _ hcm)
      obtain ⟨ra, fa, pa⟩ := ofP_rep a (by omega)
      obtain ⟨rb, fb, pb⟩ := ofP_rep b (by omega)
      obtain ⟨ry, fy, py⟩ := ofP_rep y (by omega)
      have hla := ofP_len a
      have hlb := ofP_len b
      have hly := ofP_len y
      have hrr : rep (ofP a ++ ofP b) = y.map cellKey := by rw [rep_append, ra, rb, hy, List.map_append]
      have hm30 : ∀ x ∈ ofP a ++ ofP b, x.f1.length ≤ 30 := fun x hx => (List.mem_append.1 hx).elim (ofP_sets a hca x) (ofP_sets b hcb x)
      obtain ⟨rj, fj, pj⟩ := joinP_rep (ofP a ++ ofP b) (by rw [hrr, List.length_map]; omega)
      have hjl := joinP_len (ofP a ++ ofP b)
      rw [if_neg (by omega), Of_eq a (by omega) hca k (by omega), Of_eq b (by omega) hcb k (by omega), Of_eq y (by omega) hc k (by omega)]
      simp only [Option.bind_some]
      rw [if_pos (by omega), Join_eq (ofP a ++ ofP b) (by rw [List.length_append]; omega) hm30 k (by rw [List.length_append]; omega)]
      simp only [Option.bind_some]
      rw [sameB_eq (ofP y) (joinP (ofP a ++ ofP b)) (by omega) (ofP_sets y hc) k (by omega), same_proper (ofP y) (joinP (ofP a ++ ofP b)) fy fj py pj (by rw [ry, rj, hrr])]
      rfl
end Go.Proofs.Ytpnoeggnniagfaa.P
namespace Go.Proofs.Ytpnoeggnniagfaa
open Go.RowKit
/-- The plain law. -/
theorem Pure.BlocksJoin (l0 l1 : List P.S26) : ∃ k, P.rubriclaw12_BlocksJoin.f k l0 l1 = some true := by
  refine ⟨4000, ?_⟩
  unfold P.rubriclaw12_BlocksJoin.f
  rw [show (4000 : Nat) = 3999 + 1 from rfl]
  simp only [P.rubriclaw12_BlocksJoin.j0]
  by_cases h : (l0.length : Int) > 250
  · rw [if_pos h]; rfl
  · rw [if_neg h]
    by_cases h1 : (l1.length : Int) > 250
    · rw [if_pos (by simpa using h1)]; rfl
    · rw [if_neg (by simpa using h1)]
      simp only [Option.bind_some, List.nil_append, List.length_nil, Nat.zero_add]
      rw [if_pos (by omega), if_pos (by rw [Nat.add_comm]; omega)]
      exact P.join_l0 l0 l1 (l0 ++ l1) (by omega) (by omega) rfl 3999 0 (by omega) (by rw [List.length_append]; omega) (fun j hj h0 => by omega)
end Go.Proofs.Ytpnoeggnniagfaa
