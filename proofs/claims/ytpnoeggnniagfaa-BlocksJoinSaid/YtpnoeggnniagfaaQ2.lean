-- blocks as places: rep l is the list of the places' sets (their keys)
import Derived.Test.YtpnoeggnniagfaaQ1
import Derived.Test.YtpnoeggnniagfaaEachCut
namespace Go.Proofs.Ytpnoeggnniagfaa.P
open Go.RowKit Go.Proofs.YtpnoeggnniagfaaW.PrintWords Go.Proofs.YtpnoeggnniagfaaW.PrintLast Go.Proofs.YtpnoeggnniagfaaW.PrintMore
set_option linter.unusedVariables false
abbrev Key := List (Int × Int × Int × Int × List UInt8)
def rep (l : List S34) : List Key := l.flatMap fun b => List.replicate b.f0.toNat (keyL b.f1)
theorem rep_append (a b : List S34) : rep (a ++ b) = rep a ++ rep b := by simp [rep]
theorem rep_one (b : S34) : rep [b] = List.replicate b.f0.toNat (keyL b.f1) := by simp [rep]
def Fits (l : List S34) : Prop := (∀ b ∈ l, 0 < b.f0) ∧ (rep l).length < 4611686018427387904
/-- proper: no two neighbours alike -/
def Apart : List S34 → Prop
  | [] => True
  | [_] => True
  | a :: b :: l => keyL a.f1 ≠ keyL b.f1 ∧ Apart (b :: l)
theorem apart_snoc (x : S34) : ∀ (l : List S34), Apart l → (∀ b, l.getLast? = some b → keyL b.f1 ≠ keyL x.f1) → Apart (l ++ [x])
  | [], _, _ => trivial
  | [a], _, h => ⟨h a rfl, trivial⟩
  | a :: b :: l, h1, h2 => ⟨h1.1, apart_snoc x (b :: l) h1.2 (fun c hc => h2 c (by rw [List.getLast?_cons_cons]; exact hc))⟩
theorem apart_init (x : S34) : ∀ (l : List S34), Apart (l ++ [x]) → Apart l
  | [], _ => trivial
  | [a], _ => trivial
  | a :: b :: l, h => ⟨h.1, apart_init x (b :: l) h.2⟩
theorem apart_last (x y : S34) (hk : keyL x.f1 = keyL y.f1) : ∀ (l : List S34), Apart (l ++ [x]) → Apart (l ++ [y])
  | [], _ => trivial
  | [a], h => ⟨by rw [← hk]; exact h.1, trivial⟩
  | a :: b :: l, h => ⟨h.1, apart_last x y hk (b :: l) h.2⟩
theorem addP_rep (out : List S34) (n : Int) (set : List S46) (hf : Fits out) (ha : Apart out) (hn : (rep out).length + n.toNat < 4611686018427387904) :
    rep (addP out n set) = rep out ++ List.replicate n.toNat (keyL set) ∧ Fits (addP out n set) ∧ Apart (addP out n set) := by
  unfold addP
  by_cases h0 : n ≤ 0
  · rw [if_pos h0, show n.toNat = 0 by omega]
    exact ⟨by simp, hf, ha⟩
  · rw [if_neg h0]
    have key : rep (out ++ [⟨n, set⟩]) = rep out ++ List.replicate n.toNat (keyL set) := by rw [rep_append, rep_one]
    have fits : Fits (out ++ [⟨n, set⟩]) := ⟨fun b hb => by
      rcases List.mem_append.1 hb with h | h
      · exact hf.1 b h
      · simp at h; subst h; show 0 < n; omega, by rw [key, List.length_append, List.length_replicate]; exact hn⟩
    split
    · rename_i b hb
      have hne : out ≠ [] := by rintro rfl; simp at hb
      have hb' : out.getLast hne = b := by rw [List.getLast?_eq_some_getLast hne] at hb; exact Option.some.inj hb
      have hsplit : out = out.dropLast ++ [b] := by rw [← hb']; exact (List.dropLast_concat_getLast hne).symm
      split
      · rename_i hk
        have hbp := hf.1 b (List.mem_of_getLast? hb)
        have hlen : (rep out).length = (rep out.dropLast).length + b.f0.toNat := by
          conv => lhs; rw [hsplit, rep_append, rep_one, List.length_append, List.length_replicate]
        have hw : wrap64 (b.f0 + n) = b.f0 + n := wrap64_at _ (by omega)
        have hr : rep (out.dropLast ++ [⟨wrap64 (b.f0 + n), b.f1⟩]) = rep out ++ List.replicate n.toNat (keyL set) := by
          rw [hw, rep_append, rep_one]
          conv => rhs; rw [hsplit, rep_append, rep_one]
          rw [List.append_assoc]
          congr 1
          show List.replicate (b.f0 + n).toNat (keyL b.f1) = _
          rw [show (b.f0 + n).toNat = b.f0.toNat + n.toNat by omega, ← List.replicate_append_replicate, hk]
        refine ⟨hr, ⟨fun c hc => ?_, by rw [hr, List.length_append, List.length_replicate]; exact hn⟩, ?_⟩
        · rcases List.mem_append.1 hc with h | h
          · exact hf.1 c (List.dropLast_subset _ h)
          · simp at h; subst h; show 0 < wrap64 (b.f0 + n); omega
        · rw [hsplit] at ha
          exact apart_last b ⟨wrap64 (b.f0 + n), b.f1⟩ rfl _ ha
      · rename_i hk
        exact ⟨key, fits, apart_snoc _ _ ha (fun c hc => by rw [hb] at hc; cases hc; exact hk)⟩
    · rename_i hb
      exact ⟨key, fits, apart_snoc _ _ ha (fun c hc => by rw [hb] at hc; cases hc)⟩

/-- atP counts the places (where nothing overflows). -/
theorem foldl_at (l : List S34) (s : Int) (h0 : 0 ≤ s) (hp : ∀ b ∈ l, 0 ≤ b.f0) (hs : s + (rep l).length < 4611686018427387904) : l.foldl (fun s b => wrap64 (s + b.f0)) s = s + (rep l).length := by
  induction l generalizing s with
  | nil => simp [rep]
  | cons b l ih =>
    have hb := hp b (by simp)
    have hl : (rep (b :: l)).length = b.f0.toNat + (rep l).length := by simp [rep]
    have hw : wrap64 (s + b.f0) = s + b.f0 := wrap64_at _ (by omega)
    rw [List.foldl_cons, hw, ih (s + b.f0) (by omega) (fun c hc => hp c (by simp [hc])) (by omega), hl]
    omega
theorem rep_take_le (l : List S34) (k : Nat) : (rep (l.take k)).length ≤ (rep l).length := by
  conv => rhs; rw [← List.take_append_drop k l, rep_append, List.length_append]
  omega
theorem atP_eq (l : List S34) (k : Nat) (hp : ∀ b ∈ l, 0 ≤ b.f0) (hs : (rep l).length < 4611686018427387904) : atP l k = (rep (l.take k)).length := by
  unfold atP
  have := rep_take_le l k
  rw [foldl_at _ 0 (by omega) (fun b hb => hp b (List.mem_of_mem_take hb)) (by omega)]
  omega
theorem rep_at (l : List S34) (k : Nat) (hk : k < l.length) : rep l = rep (l.take k) ++ (List.replicate (l[k]).f0.toNat (keyL (l[k]).f1) ++ rep (l.drop (k + 1))) := by
  conv => lhs; rw [← List.take_append_drop k l, List.drop_eq_getElem_cons hk, rep_append]
  simp only [rep, List.flatMap_cons]
/-- What At finds: the set of place i. -/
theorem at_hit (l : List S34) (hp : ∀ b ∈ l, 0 ≤ b.f0) (hs : (rep l).length < 4611686018427387904) (i : Int) :
    match (List.finRange l.length).find? (hitP l i) with
    | some x => 0 ≤ i ∧ (rep l)[i.toNat]? = some (keyL (l[x.1]'x.2).f1)
    | none => ¬ (0 ≤ i ∧ i < (rep l).length) := by
  have hhit : ∀ x : Fin l.length, hitP l i x = true ↔ ((rep (l.take x.1)).length : Int) ≤ i ∧ i < (rep (l.take x.1)).length + (l[x.1]'x.2).f0 := by
    intro x
    have hb := hp _ (List.getElem_mem x.2)
    have h1 := rep_at l x.1 x.2
    have h2 : (rep l).length = (rep (l.take x.1)).length + ((l[x.1]'x.2).f0.toNat + (rep (l.drop (x.1 + 1))).length) := by
      conv => lhs; rw [h1]
      simp
    unfold hitP
    rw [atP_eq l x.1 hp hs, wrap64_at _ (by omega)]
    simp
  split
  · rename_i x hx
    have h1 := (hhit x).1 (List.find?_some hx)
    refine ⟨by omega, ?_⟩
    rw [rep_at l x.1 x.2, List.getElem?_append_right (by omega), List.getElem?_append_left (by rw [List.length_replicate]; omega), List.getElem?_replicate, if_pos (by omega)]
  · rename_i hx
    rintro ⟨h0, h1⟩
    rw [List.find?_eq_none] at hx
    -- the first block that ends behind i
    have key : ∀ k, k ≤ l.length → ((rep (l.take k)).length : Int) ≤ i := by
      intro k
      induction k with
      | zero => intro _; simpa [rep] using h0
      | succ k ih =>
        intro hk
        have h2 := ih (by omega)
        have h3 := hx ⟨k, by omega⟩ (List.mem_finRange _)
        have h4 : (rep (l.take (k + 1))).length = (rep (l.take k)).length + (l[k]'(by omega)).f0.toNat := by
          rw [List.take_add_one, List.getElem?_eq_getElem (by omega), rep_append]
          simp [rep]
        have hb := hp _ (List.getElem_mem (show k < l.length by omega))
        rcases Int.lt_or_le i ((rep (l.take (k + 1))).length : Int) with h5 | h5
        · exact absurd ((hhit ⟨k, by omega⟩).2 ⟨h2, by dsimp only; omega⟩) h3
        · exact h5
    have := key l.length (Nat.le_refl _)
    rw [List.take_length] at this
    omega

/-- the blocks of cells -/
def cellKey (c : S26) : Key := keyL (if c.f0 = 10 then [] else c.f1)
theorem ofP_rep (cells : List S26) (hl : cells.length ≤ 1000) : rep (ofP cells) = cells.map cellKey ∧ Fits (ofP cells) ∧ Apart (ofP cells) := by
  have gen : ∀ (cs : List S26) (out : List S34), Fits out → Apart out → (rep out).length + cs.length ≤ 1000 → rep (cs.foldl ofStep out) = rep out ++ cs.map cellKey ∧ Fits (cs.foldl ofStep out) ∧ Apart (cs.foldl ofStep out) := by
    intro cs
    induction cs with
    | nil => intro out h1 h2 _; exact ⟨by simp, h1, h2⟩
    | cons c cs ih =>
      intro out h1 h2 h3
      simp only [List.length_cons] at h3
      obtain ⟨a1, a2, a3⟩ := addP_rep out 1 (if c.f0 = 10 then [] else c.f1) h1 h2 (by show _ + 1 < _; omega)
      have e1 : rep (ofStep out c) = rep out ++ [cellKey c] := a1
      obtain ⟨b1, b2, b3⟩ := ih (ofStep out c) a2 a3 (by rw [e1, List.length_append, List.length_singleton]; omega)
      exact ⟨by rw [List.foldl_cons, b1, e1, List.map_cons, List.append_assoc]; rfl, b2, b3⟩
  have := gen cells [] ⟨by simp, by simp [rep]⟩ trivial (by simpa [rep] using hl)
  simpa [rep, ofP] using this
theorem rd34_get (a : List S34) (i : Nat) (h : i < a.length) : rd_T34 a (i : Int) = a[i] := by simp [rd_T34, h]
instance decT0 : DecidableEq (List UInt8) := instDecidableEqList
instance decT1 : DecidableEq (Int × List UInt8) := instDecidableEqProd
instance decT2 : DecidableEq (Int × Int × List UInt8) := instDecidableEqProd
instance decT3 : DecidableEq (Int × Int × Int × List UInt8) := instDecidableEqProd
instance decT4 : DecidableEq (Int × Int × Int × Int × List UInt8) := instDecidableEqProd
instance decKey : DecidableEq Key := instDecidableEqList
instance decKey2 : DecidableEq (Int × Key) := instDecidableEqProd
instance decKey3 : DecidableEq (List (Int × Key)) := instDecidableEqList
def key34 (x : S34) : Int × Key := (x.f0, keyL x.f1)
theorem sameB_loop (a b : List S34) (hl : a.length = b.length) (hs : a.length < 4611686018427387000) (ha : ∀ x ∈ a, x.f1.length ≤ 30) : ∀ (k i : Nat), i ≤ a.length → a.length - i + 40 ≤ k →
    rubricref12_Same.l0 k a b (i : Int) = some (decide ((a.drop i).map key34 = (b.drop i).map key34))
  | 0, i, _, hk => by omega
  | k + 1, i, hi, hk => by
    unfold rubricref12_Same.l0
    by_cases h : i < a.length
    · have hai := ha _ (List.getElem_mem h)
      rw [if_pos (by omega), if_pos (by omega), if_pos (by omega), rd34_get a i h, rd34_get b i (by omega), wrap64_succ i (by omega), sameR_eq k _ _ (by omega) (by omega), sameB_loop a b hl hs ha k (i + 1) (by omega) (by omega)]
      simp only [Option.bind_some]
      rw [List.drop_eq_getElem_cons h, List.drop_eq_getElem_cons (show i < b.length by omega)]
      simp only [List.map_cons, List.cons.injEq, key34, Prod.mk.injEq]
      by_cases h1 : (a[i]).f0 = (b[i]).f0
      · rw [if_pos h1]
        by_cases h2 : keyL (a[i]).f1 = keyL (b[i]).f1
        · rw [if_pos (by simpa using h2)]; simp [h1, h2]
        · rw [if_neg (by simpa using h2)]; simp [h2]
      · rw [if_neg h1]; simp [h1]
    · rw [if_neg (by omega), List.drop_eq_nil_of_le (by omega), List.drop_eq_nil_of_le (by omega)]
      simp
def same34 (a b : List S34) : Bool := decide (a.map key34 = b.map key34)
theorem sameB_eq (a b : List S34) (hs : a.length < 4611686018427387000) (ha : ∀ x ∈ a, x.f1.length ≤ 30) (k : Nat) (hk : a.length + 40 ≤ k) : rubricref12_Same.f k a b = some (same34 a b) := by
  unfold rubricref12_Same.f same34
  by_cases hl : a.length = b.length
  · rw [if_pos (by omega)]
    have := sameB_loop a b hl hs ha k 0 (by omega) (by omega)
    simpa using this
  · rw [if_neg (by omega)]
    have : a.map key34 ≠ b.map key34 := fun h => hl (by simpa using congrArg List.length h)
    simp [this]
theorem apart_at : ∀ (l : List S34), Apart l → ∀ (i : Nat) (h : i + 1 < l.length), keyL (l[i]'(by omega)).f1 ≠ keyL (l[i + 1]'h).f1
  | [], _, i, h => by simp at h
  | [_], _, i, h => by simp at h
  | a :: b :: l, hp, 0, h => hp.1
  | a :: b :: l, hp, i + 1, h => apart_at (b :: l) hp.2 i (by simpa using h)
theorem proper_loop (l : List S34) (hs : l.length < 4611686018427387000) (hl : ∀ x ∈ l, x.f1.length ≤ 30) (hp : ∀ x ∈ l, 0 < x.f0) (ha : Apart l) : ∀ (k i : Nat), i ≤ l.length → l.length - i + 40 ≤ k → blocks_Proper.l0 k l l (l.length : Int) (i : Int) = some true
  | 0, i, _, hk => by omega
  | k + 1, i, hi, hk => by
    unfold blocks_Proper.l0
    by_cases h : i < l.length
    · have hpi := hp _ (List.getElem_mem h)
      rw [if_pos (by omega), if_pos (by omega), if_pos (by omega), rd34_get l i h, if_neg (by omega), wrap64_succ i (by omega), proper_loop l hs hl hp ha k (i + 1) (by omega) (by omega)]
      by_cases h0 : 0 < i
      · have hw : wrap64 ((i : Int) - 1) = ((i - 1 : Nat) : Int) := by rw [wrap64_at _ (by omega)]; omega
        have hi1 := hl _ (List.getElem_mem (show i - 1 < l.length by omega))
        rw [if_pos (by omega), hw, if_pos (by omega), if_pos (by omega), rd34_get l (i - 1) (by omega), same_eq k _ _ (by omega) (by omega)]
        have := apart_at l ha (i - 1) (by omega)
        simp only [show i - 1 + 1 = i by omega] at this
        simp [this]
      · rw [if_neg (by omega)]
    · rw [if_neg (by omega)]
theorem proper_eq (l : List S34) (hs : l.length < 4611686018427387000) (hl : ∀ x ∈ l, x.f1.length ≤ 30) (hp : ∀ x ∈ l, 0 < x.f0) (ha : Apart l) (k : Nat) (hk : l.length + 40 ≤ k) : blocks_Proper.f k l = some true := by
  have := proper_loop l hs hl hp ha k 0 (by omega) (by omega)
  simpa [blocks_Proper.f] using this
end Go.Proofs.Ytpnoeggnniagfaa.P
