import Derived.Test.YtpnoeggnniagfaaQ4
namespace Go.Proofs.Ytpnoeggnniagfaa.P
open Go.RowKit Go.Proofs.YtpnoeggnniagfaaW.PrintWords Go.Proofs.YtpnoeggnniagfaaW.PrintLast Go.Proofs.YtpnoeggnniagfaaW.PrintMore
set_option linter.unusedVariables false
theorem same_proper (a b : List S34) (ha : Fits a) (hb : Fits b) (pa : Apart a) (pb : Apart b) (h : rep a = rep b) : same34 a b = true := by
  unfold same34
  rw [decide_eq_true_iff]
  exact rep_unique _ _ ha.1 hb.1 pa pb h
theorem cuts_j1 (l : List S34) (ht : Tame l) (i j c : Nat) (hij : i ≤ j) (hj : j ≤ (rep l).length) (hc : c ≤ (rep l).length) (k : Nat) (hk : 1000 ≤ k) : rubriclaw12_BlocksCuts.j1 (k + 1) l (i : Int) (j : Int) (c : Int) = some true := by
  have ho := tame_ok l ht
  have hr := tame_rep l ht.2
  have hl := ht.1
  obtain ⟨p, e1, f1, g1, o1, l1, r1⟩ := cut_ok l ho (i : Int) (j : Int)
  obtain ⟨m1, e2, f2, g2, o2, l2, r2⟩ := cut_ok p o1 0 (c : Int)
  have hw : wrap64 ((i : Int) + c) = ((i + c : Nat) : Int) := by rw [wrap64_at _ (by omega)]; omega
  have hm : mn (wrap64 ((i : Int) + c)) (j : Int) = ((min (i + c) j : Nat) : Int) := by rw [hw]; unfold mn; split <;> omega
  obtain ⟨m2, e3, f3, g3, o3, l3, r3⟩ := cut_ok l ho (i : Int) ((min (i + c) j : Nat) : Int)
  rw [Int.toNat_natCast, Int.toNat_natCast, Nat.min_eq_left hj] at r1
  have hpl : (rep p).length = j - i := by rw [r1, List.length_drop, List.length_take]; omega
  simp only [rubriclaw12_BlocksCuts.j1]
  rw [e1]
  simp only [Option.bind_some]
  rw [len_ok p o1]
  simp only [Option.bind_some]
  rw [if_pos (by rw [wrap64_at _ (by omega), hpl]; omega), e2, hm, e3]
  simp only [Option.bind_some]
  have heq : rep m1 = rep m2 := by
    rw [r2, r3, hpl, r1]
    simp only [Int.toNat_natCast, Int.toNat_zero, List.drop_zero]
    rw [List.take_drop, List.take_take]
    congr 2
    omega
  rw [sameB_eq m1 m2 (by omega) o2.t k (by omega), same_proper m1 m2 f2 f3 g2 g3 heq]
  rfl
end Go.Proofs.Ytpnoeggnniagfaa.P
namespace Go.Proofs.Ytpnoeggnniagfaa
open Go.RowKit P Go.Proofs.YtpnoeggnniagfaaW.PrintWords Go.Proofs.YtpnoeggnniagfaaW.PrintLast Go.Proofs.YtpnoeggnniagfaaW.PrintMore
/-- The plain law. -/
theorem Pure.BlocksCuts (l : List P.S34) (a1 a2 a3 : Int) : ∃ k, P.rubriclaw12_BlocksCuts.f k l a1 a2 a3 = some true := by
  refine ⟨3000, ?_⟩
  unfold P.rubriclaw12_BlocksCuts.f
  obtain ⟨t, ht, hta⟩ := tame_eq l 3000 (by omega)
  rw [ht]
  simp only [Option.bind_some]
  cases t with
  | false => rfl
  | true =>
    have tm := hta rfl
    have ho := tame_ok l tm
    have hl := tm.1
    have hr := tame_rep l tm.2
    obtain ⟨j1, j2, j3⟩ := joinP_rep l ho.s
    have oj := join_ok l ho
    have hcl : ∀ x : Int, mn (mx x 0) ((rep l).length : Int) = ((min x.toNat (rep l).length : Nat) : Int) := fun x => by unfold mn mx; split <;> split <;> omega
    rw [if_pos rfl, len_ok l ho]
    simp only [Option.bind_some]
    rw [if_neg (by omega), Join_eq l ho.n ho.t 3000 (by omega), hcl, hcl, hcl]
    simp only [Option.bind_some]
    obtain ⟨m1, e1, f1, g1, o1, l1, r1⟩ := cut_ok l ho 0 ((min a1.toNat (rep l).length : Nat) : Int)
    obtain ⟨m2, e2, f2, g2, o2, l2, r2⟩ := cut_ok l ho ((min a1.toNat (rep l).length : Nat) : Int) ((rep l).length : Int)
    rw [e1, e2]
    simp only [Option.bind_some]
    rw [if_pos (by omega)]
    have hrr : rep (m1 ++ m2) = rep l := by
      rw [rep_append, r1, r2]
      simp only [Int.toNat_natCast, Int.toNat_zero, List.drop_zero]
      rw [Nat.min_self, List.take_length, Nat.min_eq_left (Nat.min_le_right _ _), List.take_append_drop]
    have o12 : ∀ b ∈ m1 ++ m2, b.f1.length ≤ 30 := fun b hb => (List.mem_append.1 hb).elim (o1.t b) (o2.t b)
    have hjl := joinP_len l
    have hj12 := joinP_len (m1 ++ m2)
    rw [List.length_append] at hj12
    have hjj := joinP_len (joinP l)
    rw [Join_eq (m1 ++ m2) (by rw [List.length_append]; omega) o12 3000 (by rw [List.length_append]; omega)]
    simp only [Option.bind_some]
    rw [sameB_eq (joinP (m1 ++ m2)) (joinP l) (by omega) (joinP_sets _ o12) 3000 (by omega), same_join (m1 ++ m2) l (by rw [hrr]; exact ho.s) ho.s, hrr]
    simp only [Option.bind_some, decide_true, if_true]
    rw [Join_eq (joinP l) oj.n oj.t 3000 (by omega)]
    simp only [Option.bind_some]
    rw [sameB_eq (joinP (joinP l)) (joinP l) (by omega) (joinP_sets _ oj.t) 3000 (by omega), same_join (joinP l) l oj.s ho.s, j1]
    simp only [Option.bind_some, decide_true, if_true]
    rw [proper_eq (joinP l) (by omega) oj.t j2.1 j3 3000 (by omega)]
    simp only [Option.bind_some, Bool.not_true]
    rw [show (3000 : Nat) = 2998 + 1 + 1 from rfl]
    simp only [P.rubriclaw12_BlocksCuts.j0]
    rw [if_neg (by simp)]
    by_cases hgt : ((min a1.toNat (rep l).length : Nat) : Int) > ((min a2.toNat (rep l).length : Nat) : Int)
    · rw [if_pos hgt]
      exact cuts_j1 l tm _ _ _ (by omega) (by omega) (by omega) 2998 (by omega)
    · rw [if_neg hgt]
      exact cuts_j1 l tm _ _ _ (by omega) (by omega) (by omega) 2998 (by omega)
end Go.Proofs.Ytpnoeggnniagfaa
