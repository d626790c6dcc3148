-- plain law: NormalTwice
import Derived.Test.YtmjeoknamoegpaaSums
import Derived.Test.YtmjeoknamoegpaaPx13
namespace Go.Proofs.Ytmjeoknamoegpaa.P
open Go.RowKit Go.Proofs.YtmjeoknamoegpaaW.PrintWords Go.Proofs.YtmjeoknamoegpaaW.PrintLast Go.Proofs.YtmjeoknamoegpaaW.PrintMore
set_option linter.unusedVariables false
set_option linter.unusedSimpArgs false
theorem twice_j1 (L : List S30) (hL : NF L) (hs : L.length ≤ 20000 ∧ tot L ≤ 20000 ∧ ∀ o ∈ L, o.f3.length ≤ 20000 ∧ o.f4.length ≤ 20000) (k : Nat) (hk : 1 ≤ k) : rubriclaw16_NormalTwice.j1 k L false = some true := by
  obtain ⟨k, rfl⟩ : ∃ k', k = k' + 1 := ⟨k - 1, by omega⟩
  rw [rubriclaw16_NormalTwice.j1, if_neg (by decide), of_some hs, Option.bind_some, hL.self, same_self (by omega), Option.bind_some, if_pos rfl]
  rfl
theorem twice_l0 (L : List S30) (hL : NF L) (hs : L.length ≤ 20000 ∧ tot L ≤ 20000 ∧ ∀ o ∈ L, o.f3.length ≤ 20000 ∧ o.f4.length ≤ 20000) : ∀ (d : Nat) (i : Nat) (k : Nat), i ≤ L.length → L.length - i = d → d + 2 ≤ k → rubriclaw16_NormalTwice.l0 k L (L.length : Int) (i : Int) = some true
  | 0, i, k, h0, h1, hk => by
    obtain ⟨k, rfl⟩ : ∃ k', k = k' + 1 := ⟨k - 1, by omega⟩
    rw [rubriclaw16_NormalTwice.l0, if_neg (by omega)]
    have hj := twice_j1 L hL hs k (by omega)
    rw [w64 _ (by omega)]
    by_cases hp : (L.length : Int) - 1 ≥ 0
    · rw [if_pos hp, if_pos hp, if_pos (by omega)]
      have e : (L.length : Int) - 1 = ((L.length - 1 : Nat) : Int) := by omega
      have hlt : L.length - 1 < L.length := by omega
      rw [e, rd30_at L _ hlt]
      split
      · rename_i h1
        obtain ⟨D, I, g, _, _, _, _, _, hl⟩ := hL
        have h2 := hl L[L.length - 1] (by rw [List.getLast?_eq_getElem?, List.getElem?_eq_getElem hlt])
        have h3 : ((L[L.length - 1].f4.length : Int) == 0) = false := beq_eq_false_iff_ne.2 (fun h => h2 ⟨h1, by omega⟩)
        rw [h3]
        exact hj
      · exact hj
    · rw [if_neg hp]
      exact hj
  | d + 1, i, k, h0, h1, hk => by
    obtain ⟨k, rfl⟩ : ∃ k', k = k' + 1 := ⟨k - 1, by omega⟩
    have ih := twice_l0 L hL hs d (i + 1) k (by omega) (by omega) (by omega)
    have e : (i : Int) + 1 = ((i + 1 : Nat) : Int) := by omega
    rw [rubriclaw16_NormalTwice.l0, if_pos (by omega), w64 ((i : Int) + 1) (by omega), e]
    by_cases hp : (i : Int) > 0
    · rw [if_pos hp, w64 _ (by omega), if_pos (by omega), if_pos (by omega)]
      have e2 : (i : Int) - 1 = ((i - 1 : Nat) : Int) := by omega
      have hi : i < L.length := by omega
      rw [e2, rd30_at L (i - 1) (by omega), rd30_at L i hi]
      split
      · rename_i h3
        have h4 := hL.adj.get (i - 1) (by omega) h3
        have e3 : L[i - 1 + 1]'(by omega) = L[i] := by congr 1; omega
        rw [e3] at h4
        rw [if_pos (by omega), if_pos (by omega), if_pos h4, if_neg (by omega)]
        exact ih
      · exact ih
    · rw [if_neg hp]
      exact ih
end Go.Proofs.Ytmjeoknamoegpaa.P
namespace Go.Proofs.Ytmjeoknamoegpaa.Pure
open Go.Proofs.Ytmjeoknamoegpaa.P
theorem NormalTwice (keys : List S64) (x : List S30) (h : sz x ≤ 2000000) : ∃ k, rubriclaw16_NormalTwice.f k keys x = some true := by
  refine ⟨6000002, ?_⟩
  obtain ⟨r, hr, ht⟩ := tame_some keys x h 6000002 (by omega)
  unfold rubriclaw16_NormalTwice.f
  rw [hr, Option.bind_some]
  cases r with
  | false => rw [if_neg (by decide)]; rfl
  | true =>
    obtain ⟨hz, ho⟩ := ht rfl
    have hs := form_small hz ho
    have hl := (small_sz hz).1
    rw [if_pos rfl, of_some (small_sz hz), Option.bind_some]
    exact twice_l0 (ofP x) (NF.make x ho (by omega)) hs (ofP x).length 0 6000002 (by omega) (by omega) (by omega)
end Go.Proofs.Ytmjeoknamoegpaa.Pure
