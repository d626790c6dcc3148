-- what Cut tells: the places from I on, below J
import Derived.Test.YtpnoeggnniagfaaPureBlocksPlaces
namespace Go.Proofs.Ytpnoeggnniagfaa.P
open Go.RowKit Go.Proofs.YtpnoeggnniagfaaW.PrintWords Go.Proofs.YtpnoeggnniagfaaW.PrintLast Go.Proofs.YtpnoeggnniagfaaW.PrintMore
set_option linter.unusedVariables false
theorem fin_take_succ (n k : Nat) (h : k < n) : (List.finRange n).take (k + 1) = (List.finRange n).take k ++ [⟨k, h⟩] := by
  rw [List.take_add_one, List.getElem?_eq_getElem (by simpa using h)]; simp
theorem rep_take_succ (l : List S34) (k : Nat) (h : k < l.length) : rep (l.take (k + 1)) = rep (l.take k) ++ List.replicate (l[k]).f0.toNat (keyL (l[k]).f1) := by
  rw [List.take_add_one, List.getElem?_eq_getElem h, rep_append]
  simp [rep]
theorem cut_count (R : List Key) (N : Nat) (key : Key) (I J : Nat) : ((R ++ List.replicate N key).take J).drop I = (R.take J).drop I ++ List.replicate (min (J - R.length) N - (I - min J R.length)) key := by
  rw [List.take_append, List.drop_append, List.length_take, List.take_replicate, List.drop_replicate]
theorem cutP_rep (l : List S34) (ho : Ok l) (I J : Nat) (hI : I ≤ J) (hJ : J ≤ (rep l).length) : ∀ k, k ≤ l.length →
    rep (cutP l I J ((List.finRange l.length).take k)) = ((rep (l.take k)).take J).drop I ∧ Fits (cutP l I J ((List.finRange l.length).take k)) ∧ Apart (cutP l I J ((List.finRange l.length).take k)) := by
  intro k
  induction k with
  | zero => intro _; exact ⟨by simp [cutP, rep], ⟨by simp [cutP], by simp [cutP, rep]⟩, by simp [cutP, Apart]⟩
  | succ k ih =>
    intro hk
    obtain ⟨a1, a2, a3⟩ := ih (by omega)
    have hp := ho.p _ (List.getElem_mem (show k < l.length by omega))
    have hs := ho.s
    have h1 := rep_at l k (by omega)
    have h2 : (rep l).length = (rep (l.take k)).length + ((l[k]'(by omega)).f0.toNat + (rep (l.drop (k + 1))).length) := by
      conv => lhs; rw [h1]
      simp
    rw [fin_take_succ _ k (by omega), cutP_snoc, rep_take_succ l k (by omega), cut_count]
    have hat := atP_eq l k ho.p hs
    simp only [hat]
    rw [wrap64_at ((rep (l.take k)).length + (l[k]'(by omega)).f0) (by omega)]
    have hn : (wrap64 (mn (((rep (l.take k)).length : Int) + (l[k]'(by omega)).f0) (J : Int) - mx ((rep (l.take k)).length : Int) (I : Int))).toNat = min (J - (rep (l.take k)).length) (l[k]'(by omega)).f0.toNat - (I - min J (rep (l.take k)).length) := by
      rw [wrap64_at _ (by unfold mn mx; split <;> split <;> omega)]
      unfold mn mx
      split <;> split <;> omega
    have hl1 : (rep (cutP l I J ((List.finRange l.length).take k))).length ≤ (rep (l.take k)).length := by
      rw [a1, List.length_drop, List.length_take]; omega
    obtain ⟨b1, b2, b3⟩ := addP_rep _ (wrap64 (mn (((rep (l.take k)).length : Int) + (l[k]'(by omega)).f0) (J : Int) - mx ((rep (l.take k)).length : Int) (I : Int))) (l[k]'(by omega)).f1 a2 a3 (by rw [hn]; omega)
    rw [hn, a1] at b1
    exact ⟨b1, b2, b3⟩
/-- Cut, told by its places. -/
theorem cut_ok (l : List S34) (ho : Ok l) (i j : Int) : ∃ m, blocks_Cut.f l i j = some m ∧ Fits m ∧ Apart m ∧ Ok m ∧ m.length ≤ l.length ∧
    rep m = ((rep l).take (min j.toNat (rep l).length)).drop i.toNat := by
  have hs := ho.s
  have hmx : ∀ x : Int, mx x 0 = (x.toNat : Int) := fun x => by unfold mx; split <;> omega
  have hmn : mn (mx j 0) (atP l l.length) = ((min j.toNat (rep l).length : Nat) : Int) := by
    rw [hmx, atP_eq l l.length ho.p hs, List.take_length]
    unfold mn; split <;> omega
  unfold blocks_Cut.f
  rw [if_pos ⟨by have := ho.n; omega, fun b hb => by have := ho.t b hb; omega⟩, hmn, hmx]
  refine ⟨_, rfl, ?_⟩
  by_cases hij : ((min j.toNat (rep l).length : Nat) : Int) ≤ (i.toNat : Int)
  · rw [if_pos hij]
    refine ⟨⟨by simp, by simp [rep]⟩, trivial, ⟨by simp, by simp [rep], by simp, by simp⟩, by simp, ?_⟩
    rw [List.drop_eq_nil_of_le (by rw [List.length_take]; omega)]
    simp [rep]
  · rw [if_neg hij]
    have h := cutP_rep l ho i.toNat (min j.toNat (rep l).length) (by omega) (by omega) l.length (Nat.le_refl _)
    rw [List.take_of_length_le (by simp), List.take_length] at h
    obtain ⟨h1, h2, h3⟩ := h
    have hlen := cutP_length l (i.toNat : Int) ((min j.toNat (rep l).length : Nat) : Int) (List.finRange l.length)
    rw [List.length_finRange] at hlen
    exact ⟨h2, h3, ⟨fun b hb => by have := h2.1 b hb; omega, h2.2, Nat.le_trans hlen ho.n, cutP_sets l (fun s => s.length ≤ 30) ho.t _ _ _⟩, hlen, h1⟩
end Go.Proofs.Ytpnoeggnniagfaa.P
