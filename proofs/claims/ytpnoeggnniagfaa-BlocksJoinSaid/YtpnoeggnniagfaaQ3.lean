-- joined blocks; proper blocks are told by their places
import Derived.Test.YtpnoeggnniagfaaPureBlocksCells
import Derived.Test.YtpnoeggnniagfaaPx5
namespace Go.Proofs.Ytpnoeggnniagfaa.P
open Go.RowKit Go.Proofs.YtpnoeggnniagfaaW.PrintWords Go.Proofs.YtpnoeggnniagfaaW.PrintLast Go.Proofs.YtpnoeggnniagfaaW.PrintMore
set_option linter.unusedVariables false
def joinP (l : List S34) : List S34 := l.foldl (fun o b => addP o b.f0 b.f1) []
theorem Join_loop (l : List S34) (hl : l.length ≤ 1000) (hc : ∀ b ∈ l, b.f1.length ≤ 30) : ∀ (k i : Nat) (out : List S34), i ≤ l.length → l.length - i + 40 ≤ k → (∀ b ∈ out, b.f1.length ≤ 30) → out.length ≤ i →
    blocks_Join.l0 k out l (l.length : Int) (i : Int) = some ((l.drop i).foldl (fun o b => addP o b.f0 b.f1) out)
  | 0, i, _, _, hk, _, _ => by omega
  | k + 1, i, out, hi, hk, ho, hol => by
    unfold blocks_Join.l0
    by_cases h : i < l.length
    · have hci := hc _ (List.getElem_mem h)
      rw [if_pos (by omega), if_pos (by omega), if_pos (by omega), rd34_get l i h, wrap64_succ i (by omega)]
      have hk1 : ∀ b ∈ out, b.f1.length < k ∧ b.f1.length < 2932031007402 := fun b hb => by have := ho b hb; constructor <;> omega
      rw [add_eq k out l[i].f0 l[i].f1 (by omega) (by omega) hk1]
      simp only [Option.bind_some]
      have hln := addP_length out l[i].f0 l[i].f1
      rw [List.drop_eq_getElem_cons h, List.foldl_cons]
      exact Join_loop l hl hc k (i + 1) _ (by omega) (by omega) (addP_sets (P := fun s => s.length ≤ 30) _ _ _ ho hci) (by omega)
    · rw [if_neg (by omega), List.drop_eq_nil_of_le (by omega)]
      rfl
theorem Join_eq (l : List S34) (hl : l.length ≤ 1000) (hc : ∀ b ∈ l, b.f1.length ≤ 30) (k : Nat) (hk : l.length + 40 ≤ k) : blocks_Join.f k l = some (joinP l) := by
  unfold blocks_Join.f joinP
  have := Join_loop l hl hc k 0 [] (by omega) (by omega) (by simp) (by simp)
  simpa using this
theorem joinP_len (l : List S34) : (joinP l).length ≤ l.length := by
  have := foldl_len (fun o (b : S34) => addP o b.f0 b.f1) (fun o b => addP_length _ _ _) l []
  simpa [joinP] using this
theorem foldl_sets (l : List S34) : ∀ out : List S34, (∀ b ∈ l, b.f1.length ≤ 30) → (∀ b ∈ out, b.f1.length ≤ 30) → ∀ b ∈ l.foldl (fun o b => addP o b.f0 b.f1) out, b.f1.length ≤ 30 := by
  induction l with
  | nil => intro out _ h; exact h
  | cons c l ih => intro out h1 h2; exact ih _ (fun d hd => h1 d (by simp [hd])) (addP_sets (P := fun s => s.length ≤ 30) _ _ _ h2 (h1 c (by simp)))
theorem joinP_sets (l : List S34) (h : ∀ b ∈ l, b.f1.length ≤ 30) : ∀ b ∈ joinP l, b.f1.length ≤ 30 := foldl_sets l [] h (by simp)
theorem joinP_rep (l : List S34) (hl : (rep l).length < 4611686018427387904) : rep (joinP l) = rep l ∧ Fits (joinP l) ∧ Apart (joinP l) := by
  have gen : ∀ (l out : List S34), Fits out → Apart out → (rep out).length + (rep l).length < 4611686018427387904 →
      rep (l.foldl (fun o b => addP o b.f0 b.f1) out) = rep out ++ rep l ∧ Fits (l.foldl (fun o b => addP o b.f0 b.f1) out) ∧ Apart (l.foldl (fun o b => addP o b.f0 b.f1) out) := by
    intro l
    induction l with
    | nil => intro out h1 h2 _; exact ⟨by simp [rep], h1, h2⟩
    | cons b l ih =>
      intro out h1 h2 h3
      have hb : rep (b :: l) = List.replicate b.f0.toNat (keyL b.f1) ++ rep l := by simp [rep]
      rw [hb, List.length_append, List.length_replicate] at h3
      obtain ⟨a1, a2, a3⟩ := addP_rep out b.f0 b.f1 h1 h2 (by omega)
      obtain ⟨b1, b2, b3⟩ := ih (addP out b.f0 b.f1) a2 a3 (by rw [a1, List.length_append, List.length_replicate]; omega)
      exact ⟨by rw [List.foldl_cons, b1, a1, hb, List.append_assoc], b2, b3⟩
  have := gen l [] ⟨by simp, by simp [rep]⟩ trivial (by simpa [rep] using hl)
  simpa [rep, joinP] using this
theorem rep_cons (b : S34) (l : List S34) : rep (b :: l) = List.replicate b.f0.toNat (keyL b.f1) ++ rep l := by simp [rep]
theorem rep_head (x : S34) (l : List S34) (hp : ∀ b ∈ l, 0 < b.f0) (ha : Apart (x :: l)) : (rep l)[0]? ≠ some (keyL x.f1) := by
  cases l with
  | nil => simp [rep]
  | cons y l =>
    have hy := hp y (by simp)
    rw [rep_cons, List.getElem?_append_left (by rw [List.length_replicate]; omega), List.getElem?_replicate, if_pos (by omega)]
    intro h; exact ha.1 (Option.some.inj h).symm
theorem apart_tail (x : S34) (l : List S34) (h : Apart (x :: l)) : Apart l := by
  cases l with
  | nil => trivial
  | cons y l => exact h.2
/-- Proper blocks that tell the same at each place are the same. -/
theorem rep_unique : ∀ (a b : List S34), (∀ x ∈ a, 0 < x.f0) → (∀ x ∈ b, 0 < x.f0) → Apart a → Apart b → rep a = rep b → a.map key34 = b.map key34
  | [], [], _, _, _, _, _ => rfl
  | [], y :: b, _, hb, _, _, h => by
    have hy := hb y (by simp)
    have := congrArg List.length h
    rw [rep_cons, List.length_append, List.length_replicate] at this
    simp [rep] at this
    omega
  | x :: a, [], ha, _, _, _, h => by
    have hx := ha x (by simp)
    have := congrArg List.length h
    rw [rep_cons, List.length_append, List.length_replicate] at this
    simp [rep] at this
    omega
  | x :: a, y :: b, ha, hb, pa, pb, h => by
    have hx := ha x (by simp)
    have hy := hb y (by simp)
    have hha := rep_head x a (fun c hc => ha c (by simp [hc])) pa
    have hhb := rep_head y b (fun c hc => hb c (by simp [hc])) pb
    rw [rep_cons, rep_cons] at h
    have h0 := congrArg (fun l => l[0]?) h
    try simp only at h0
    rw [List.getElem?_append_left (by rw [List.length_replicate]; omega), List.getElem?_append_left (by rw [List.length_replicate]; omega), List.getElem?_replicate, List.getElem?_replicate, if_pos (by omega), if_pos (by omega)] at h0
    have hk : keyL x.f1 = keyL y.f1 := Option.some.inj h0
    have hn : x.f0.toNat = y.f0.toNat := by
      rcases Nat.lt_trichotomy x.f0.toNat y.f0.toNat with h1 | h1 | h1
      · exfalso
        have h2 := congrArg (fun l => l[x.f0.toNat]?) h
        try simp only at h2
        rw [List.getElem?_append_right (by rw [List.length_replicate]; omega), List.getElem?_append_left (by rw [List.length_replicate]; omega), List.length_replicate, Nat.sub_self, List.getElem?_replicate, if_pos h1] at h2
        exact hha (by rw [h2, hk])
      · exact h1
      · exfalso
        have h2 := congrArg (fun l => l[y.f0.toNat]?) h
        try simp only at h2
        rw [List.getElem?_append_left (by rw [List.length_replicate]; omega), List.getElem?_append_right (by rw [List.length_replicate]; omega), List.length_replicate, Nat.sub_self, List.getElem?_replicate, if_pos h1] at h2
        exact hhb (by rw [← h2, hk])
    rw [hn, hk] at h
    have ht := List.append_cancel_left h
    have ih := rep_unique a b (fun c hc => ha c (by simp [hc])) (fun c hc => hb c (by simp [hc])) (apart_tail _ _ pa) (apart_tail _ _ pb) ht
    simp only [List.map_cons, ih, List.cons.injEq, key34, Prod.mk.injEq, hk, and_true]
    omega
def Tame (l : List S34) : Prop := l.length ≤ 200 ∧ ∀ b ∈ l, 0 ≤ b.f0 ∧ b.f0 ≤ 1099511627776 ∧ b.f1.length ≤ 30
theorem tame_loop (l : List S34) (hl : l.length ≤ 200) : ∀ (k i : Nat), i ≤ l.length → l.length - i + 1 ≤ k → (∀ j (hj : j < l.length), j < i → 0 ≤ (l[j]).f0 ∧ (l[j]).f0 ≤ 1099511627776 ∧ (l[j]).f1.length ≤ 30) →
    ∃ t, rubriclaw12_tame.l0 k l (l.length : Int) (i : Int) = some t ∧ (t = true → Tame l)
  | 0, i, _, hk, _ => by omega
  | k + 1, i, hi, hk, hp => by
    unfold rubriclaw12_tame.l0
    by_cases h : i < l.length
    · rw [if_pos (by omega), if_pos (by omega), if_pos (by omega), rd34_get l i h]
      by_cases h1 : (l[i]).f0 < 0
      · rw [if_pos h1]; exact ⟨_, rfl, by simp⟩
      · rw [if_neg h1]
        by_cases h2 : (l[i]).f0 > 1099511627776
        · rw [if_pos h2]; exact ⟨_, rfl, by simp⟩
        · rw [if_neg h2]
          by_cases h3 : ((l[i]).f1.length : Int) > 30
          · rw [if_pos h3]; exact ⟨_, rfl, by simp⟩
          · rw [if_neg h3, wrap64_succ i (by omega)]
            exact tame_loop l hl k (i + 1) (by omega) (by omega) (fun j hj hji => by
              rcases Nat.lt_or_ge j i with h4 | h4
              · exact hp j hj h4
              · obtain rfl : j = i := by omega
                omega)
    · rw [if_neg (by omega)]
      refine ⟨_, rfl, fun _ => ⟨hl, fun b hb => ?_⟩⟩
      obtain ⟨j, hj, rfl⟩ := List.getElem_of_mem hb
      exact hp j hj (by omega)
theorem tame_eq (l : List S34) (k : Nat) (hk : 300 ≤ k) : ∃ t, rubriclaw12_tame.f k l = some t ∧ (t = true → Tame l) := by
  unfold rubriclaw12_tame.f
  by_cases h : (l.length : Int) > 200
  · rw [if_pos h]; exact ⟨_, rfl, by simp⟩
  · rw [if_neg h]
    exact tame_loop l (by omega) k 0 (by omega) (by omega) (fun j hj h0 => by omega)
theorem tame_rep (l : List S34) (h : ∀ b ∈ l, 0 ≤ b.f0 ∧ b.f0 ≤ 1099511627776 ∧ b.f1.length ≤ 30) : (rep l).length ≤ l.length * 1099511627776 := by
  induction l with
  | nil => simp [rep]
  | cons b l ih =>
    have hb := h b (by simp)
    rw [rep_cons, List.length_append, List.length_replicate, List.length_cons]
    have := ih (fun c hc => h c (by simp [hc]))
    omega
end Go.Proofs.Ytpnoeggnniagfaa.P
