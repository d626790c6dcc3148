import Derived.Test.YtpnoeggnniagfaaQ3
import Derived.Test.YtpnoeggnniagfaaPx6
namespace Go.Proofs.Ytpnoeggnniagfaa.P
open Go.RowKit Go.Proofs.YtpnoeggnniagfaaW.PrintWords Go.Proofs.YtpnoeggnniagfaaW.PrintLast Go.Proofs.YtpnoeggnniagfaaW.PrintMore
set_option linter.unusedVariables false
/-- What is wanted of blocks that are read. -/
structure Ok (l : List S34) : Prop where
  p : ∀ b ∈ l, 0 ≤ b.f0
  s : (rep l).length < 4611686018427387904
  n : l.length ≤ 1000
  t : ∀ b ∈ l, b.f1.length ≤ 30
theorem len_ok (l : List S34) (h : Ok l) : blocks_Len.f l = some ((rep l).length : Int) := by
  unfold blocks_Len.f
  rw [if_pos (by have := h.n; omega), atP_eq l l.length h.p h.s, List.take_length]
theorem at_ok (l : List S34) (h : Ok l) (i : Nat) (hi : i < (rep l).length) : ∃ set, blocks_At.f l (i : Int) = some (set, true) ∧ (rep l)[i]? = some (keyL set) ∧ set.length ≤ 30 := by
  have hh := at_hit l h.p h.s (i : Int)
  unfold blocks_At.f
  rw [if_pos ⟨by have := h.n; omega, fun b hb => by have := h.t b hb; omega⟩]
  split at hh
  · rename_i x hx
    rw [hx]
    exact ⟨_, rfl, by simpa using hh.2, h.t _ (List.getElem_mem x.2)⟩
  · exact absurd ⟨by omega, by omega⟩ hh
theorem at_any (l : List S34) (h : Ok l) (i : Int) : ∃ p, blocks_At.f l i = some p := by
  unfold blocks_At.f
  rw [if_pos ⟨by have := h.n; omega, fun b hb => by have := h.t b hb; omega⟩]
  exact ⟨_, rfl⟩
theorem join_ok (l : List S34) (h : Ok l) : Ok (joinP l) := by
  obtain ⟨r1, r2, r3⟩ := joinP_rep l h.s
  exact ⟨fun b hb => by have := r2.1 b hb; omega, by rw [r1]; exact h.s, Nat.le_trans (joinP_len l) h.n, joinP_sets l h.t⟩
theorem rep_of_keys : ∀ (a b : List S34), a.map key34 = b.map key34 → rep a = rep b
  | [], [], _ => rfl
  | [], _ :: _, h => by simp at h
  | _ :: _, [], h => by simp at h
  | x :: a, y :: b, h => by
    simp only [List.map_cons, List.cons.injEq, key34, Prod.mk.injEq] at h
    rw [rep_cons, rep_cons, h.1.1, h.1.2, rep_of_keys a b h.2]
theorem same_join (a b : List S34) (ha : (rep a).length < 4611686018427387904) (hb : (rep b).length < 4611686018427387904) : same34 (joinP a) (joinP b) = decide (rep a = rep b) := by
  obtain ⟨a1, a2, a3⟩ := joinP_rep a ha
  obtain ⟨b1, b2, b3⟩ := joinP_rep b hb
  unfold same34
  rw [decide_eq_decide]
  constructor
  · intro h; rw [← a1, ← b1]; exact rep_of_keys _ _ h
  · intro h; exact rep_unique _ _ a2.1 b2.1 a3 b3 (by rw [a1, b1, h])
def upTo (R S : List Key) (i : Nat) : Bool := decide (R.length = S.length ∧ R.take i = S.take i)
theorem upTo_succ (R S : List Key) (i : Nat) (u v : Key) (hu : R[i]? = some u) (hv : S[i]? = some v) : upTo R S (i + 1) = (upTo R S i && decide (u = v)) := by
  unfold upTo
  rw [← Bool.decide_and, decide_eq_decide, List.take_add_one, List.take_add_one, hu, hv]
  constructor
  · rintro ⟨h1, h2⟩
    have h3 := List.append_inj' h2 rfl
    exact ⟨⟨h1, h3.1⟩, by simpa using h3.2⟩
  · rintro ⟨⟨h1, h2⟩, rfl⟩
    exact ⟨h1, by rw [h2]⟩
theorem upTo_false (R S : List Key) (i : Nat) (h : upTo R S i = false) : upTo R S (i + 1) = false := by
  unfold upTo at h ⊢
  rw [decide_eq_false_iff_not] at h ⊢
  rintro ⟨h1, h2⟩
  refine h ⟨h1, ?_⟩
  have := congrArg (List.take i) h2
  rwa [List.take_take, List.take_take, Nat.min_eq_left (by omega)] at this
theorem places_l2 (a b : List S34) (ha : Ok a) (hb : Ok b) : ∀ (m k i : Nat), (rep a).length - i = m → i ≤ (rep a).length → (rep a).length < 4611686018427387000 → 2 * m + 1200 ≤ k →
    rubriclaw12_BlocksPlaces.l2 k a b (joinP a) (joinP b) (upTo (rep a) (rep b) i) (i : Int) = some true := by
  intro m
  induction m with
  | zero =>
    intro k i hm hi hs hk
    obtain ⟨k, rfl⟩ : ∃ k', k = k' + 1 := ⟨k - 1, by omega⟩
    unfold rubriclaw12_BlocksPlaces.l2
    rw [len_ok a ha]
    simp only [Option.bind_some]
    have hjl := (join_ok a ha).n
    rw [if_neg (by omega), sameB_eq (joinP a) (joinP b) (by omega) (joinP_sets a ha.t) k (by omega), same_join a b ha.s hb.s]
    simp only [Option.bind_some]
    have : decide (rep a = rep b) = upTo (rep a) (rep b) i := by
      unfold upTo
      rw [decide_eq_decide]
      have hi2 : i = (rep a).length := by omega
      constructor
      · intro h; rw [h]; exact ⟨rfl, rfl⟩
      · rintro ⟨h1, h2⟩
        rw [hi2, List.take_length, h1, List.take_length] at h2
        exact h2
    rw [this, if_pos (by simp)]
    rfl
  | succ m ih =>
    intro k i hm hi hs hk
    obtain ⟨k, rfl⟩ : ∃ k', k = k' + 1 + 1 := ⟨k - 2, by omega⟩
    have hlt : i < (rep a).length := by omega
    obtain ⟨r1, r2, r3⟩ := joinP_rep a ha.s
    obtain ⟨s1, e1, f1, g1⟩ := at_ok a ha i hlt
    obtain ⟨s2, e2, f2, g2⟩ := at_ok (joinP a) (join_ok a ha) i (by rw [r1]; exact hlt)
    rw [r1, f1] at f2
    have hkk : keyL s1 = keyL s2 := Option.some.inj f2
    unfold rubriclaw12_BlocksPlaces.l2
    rw [len_ok a ha]
    simp only [Option.bind_some]
    rw [if_pos (by omega), e1, e2]
    simp only [Option.bind_some, if_true]
    rw [sameR_eq (k + 1) s1 s2 (by omega) (by omega)]
    simp only [Option.bind_some, hkk, decide_true, Bool.not_true]
    simp only [rubriclaw12_BlocksPlaces.j4]
    rw [if_neg (by simp), wrap64_succ i (by omega)]
    cases hu : upTo (rep a) (rep b) i with
    | true =>
      have hlen : (rep a).length = (rep b).length := (of_decide_eq_true hu).1
      obtain ⟨s3, e3, f3, g3⟩ := at_ok b hb i (by omega)
      rw [e3]
      simp only [Option.bind_some, if_true]
      rw [sameR_eq k s1 s3 (by omega) (by omega)]
      simp only [Option.bind_some]
      have hst := upTo_succ (rep a) (rep b) i _ _ f1 f3
      rw [hu, Bool.true_and] at hst
      rw [← hst]
      exact ih k (i + 1) (by omega) (by omega) hs (by omega)
    | false =>
      obtain ⟨p, e3⟩ := at_any b hb (i : Int)
      rw [e3]
      simp only [Option.bind_some]
      rw [if_neg (by simp)]
      have hst := upTo_false (rep a) (rep b) i hu
      rw [← hst]
      exact ih k (i + 1) (by omega) (by omega) hs (by omega)
theorem tame_ok (l : List S34) (h : Tame l) : Ok l :=
  ⟨fun b hb => (h.2 b hb).1, by have := tame_rep l h.2; have := h.1; omega, by have := h.1; omega, fun b hb => (h.2 b hb).2.2⟩
theorem places_l1 (a b : List S34) (ha : Tame a) (hb : Tame b) : ∀ (k i : Nat), i ≤ b.length → b.length - i + 2 * (rep a).length + 2000 ≤ k → rubriclaw12_BlocksPlaces.l1 k a b (b.length : Int) (i : Int) = some true
  | 0, i, _, hk => by omega
  | k + 1, i, hi, hk => by
    unfold rubriclaw12_BlocksPlaces.l1
    by_cases h : i < b.length
    · rw [if_pos (by omega), if_pos (by omega), if_pos (by omega), rd34_get b i h, wrap64_succ i (by have := hb.1; omega), places_l1 a b ha hb k (i + 1) (by omega) (by omega)]
      split <;> rfl
    · have oa := tame_ok a ha
      have ob := tame_ok b hb
      have ra := tame_rep a ha.2
      have hna := ha.1
      have hnb := hb.1
      rw [if_neg (by omega), Join_eq a oa.n oa.t k (by omega), Join_eq b ob.n ob.t k (by omega), len_ok a oa, len_ok b ob]
      simp only [Option.bind_some]
      have h9 : (((rep a).length : Int) == ((rep b).length : Int)) = upTo (rep a) (rep b) 0 := by
        unfold upTo
        rw [show ((((rep a).length : Int) == ((rep b).length : Int))) = decide (((rep a).length : Int) = ((rep b).length : Int)) from rfl, decide_eq_decide]
        simp only [List.take_zero, and_true]
        omega
      rw [h9]
      exact places_l2 a b oa ob (rep a).length k 0 (by omega) (by omega) (by omega) (by omega)
theorem places_l0 (a b : List S34) (ha : Tame a) (hb : Tame b) : ∀ (k i : Nat), i ≤ a.length → a.length - i + 2 * (rep a).length + 2500 ≤ k → rubriclaw12_BlocksPlaces.l0 k a b (a.length : Int) (i : Int) = some true
  | 0, i, _, hk => by omega
  | k + 1, i, hi, hk => by
    unfold rubriclaw12_BlocksPlaces.l0
    have hna := ha.1
    have hnb := hb.1
    by_cases h : i < a.length
    · rw [if_pos (by omega), if_pos (by omega), if_pos (by omega), rd34_get a i h, wrap64_succ i (by omega), places_l0 a b ha hb k (i + 1) (by omega) (by omega)]
      split <;> rfl
    · rw [if_neg (by omega)]
      exact places_l1 a b ha hb k 0 (by omega) (by omega)
end Go.Proofs.Ytpnoeggnniagfaa.P
namespace Go.Proofs.Ytpnoeggnniagfaa
open Go.RowKit P
/-- The plain law. -/
theorem Pure.BlocksPlaces (a b : List P.S34) : ∃ k, P.rubriclaw12_BlocksPlaces.f k a b = some true := by
  refine ⟨2 * (rep a).length + 4000 + 1, ?_⟩
  have hj : P.rubriclaw12_BlocksPlaces.j0 (2 * (rep a).length + 4000 + 1) a b true = some true := by
    simp only [P.rubriclaw12_BlocksPlaces.j0]
    rfl
  unfold P.rubriclaw12_BlocksPlaces.f
  by_cases h1 : (a.length : Int) > 60
  · rw [if_pos h1]; exact hj
  · rw [if_neg h1]
    by_cases h2 : (b.length : Int) > 60
    · rw [if_pos h2]; exact hj
    · rw [if_neg h2]
      obtain ⟨t, ht, hta⟩ := tame_eq a (2 * (rep a).length + 4000 + 1) (by omega)
      rw [ht]
      simp only [Option.bind_some]
      cases t with
      | false => exact hj
      | true =>
        obtain ⟨u, hu, hub⟩ := tame_eq b (2 * (rep a).length + 4000 + 1) (by omega)
        rw [if_pos rfl, hu]
        simp only [Option.bind_some]
        cases u with
        | false => exact hj
        | true =>
          have ta := hta rfl
          have := ta.1
          simp only [Bool.not_true, P.rubriclaw12_BlocksPlaces.j0]
          rw [if_neg (by simp)]
          exact places_l0 a b ta (hub rfl) (2 * (rep a).length + 4000) 0 (by omega) (by omega)
end Go.Proofs.Ytpnoeggnniagfaa
