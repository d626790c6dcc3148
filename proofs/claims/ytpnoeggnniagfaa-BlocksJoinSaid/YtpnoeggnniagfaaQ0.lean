-- plain facts about the two comparisons of sets, and about add
import Derived.Test.YtpnoeggnniagfaaPx2
namespace Go.Proofs.Ytpnoeggnniagfaa.P
open Go.RowKit Go.Proofs.YtpnoeggnniagfaaW.PrintWords Go.Proofs.YtpnoeggnniagfaaW.PrintLast Go.Proofs.YtpnoeggnniagfaaW.PrintMore
set_option linter.unusedVariables false

def nrm (x : S46) : Int × Int × Int × Int × List UInt8 := (x.f0, x.f1.f0, x.f1.f1, x.f1.f2, x.f1.f3.toList)
def keyL (a : List S46) : List (Int × Int × Int × Int × List UInt8) := a.map nrm
theorem keyL_length (a : List S46) : (keyL a).length = a.length := by simp [keyL]
theorem differs_iff (x y : S46) : ((!(x.f0 == y.f0) || ((!(x.f1.f0 == y.f1.f0)) || (!(x.f1.f1 == y.f1.f1)) || (!(x.f1.f2 == y.f1.f2)) || (!(x.f1.f3.toList == y.f1.f3.toList)))) = true) ↔ nrm x ≠ nrm y := by
  simp only [nrm, ne_eq, Prod.mk.injEq, Bool.or_eq_true, Bool.not_eq_true', beq_eq_false_iff_ne, ne_eq]
  constructor
  · rintro (h | ((h | h) | h) | h) ⟨a, b, c, d, e⟩ <;> exact h (by assumption)
  · intro h
    by_cases h1 : x.f0 = y.f0
    · by_cases h2 : x.f1.f0 = y.f1.f0
      · by_cases h3 : x.f1.f1 = y.f1.f1
        · by_cases h4 : x.f1.f2 = y.f1.f2
          · right; right; intro h5; exact h ⟨h1, h2, h3, h4, h5⟩
          · right; left; right; exact h4
        · right; left; left; right; exact h3
      · right; left; left; left; exact h2
    · left; exact h1
theorem rd46_get (a : List S46) (i : Nat) (h : i < a.length) : rd_T46 a (i : Int) = a[i] := by simp [rd_T46, h]
theorem wrap64_at (n : Int) (h : -9223372036854775808 ≤ n ∧ n ≤ 9223372036854775807) : wrap64 n = n := by unfold wrap64; omega
theorem wrap64_succ (i : Nat) (h : (i : Int) < 4611686018427387904) : wrap64 ((i : Int) + 1) = ((i + 1 : Nat) : Int) := by
  have : wrap64 ((i : Int) + 1) = (i : Int) + 1 := wrap64_at _ (by omega)
  rw [this]; omega
theorem keyL_drop (a b : List S46) (i : Nat) (ha : i < a.length) (hb : i < b.length) : (keyL (a.drop i) = keyL (b.drop i)) ↔ (nrm a[i] = nrm b[i] ∧ keyL (a.drop (i + 1)) = keyL (b.drop (i + 1))) := by
  rw [List.drop_eq_getElem_cons ha, List.drop_eq_getElem_cons hb]
  simp only [keyL, List.map_cons, List.cons.injEq]
theorem api31_loop (a b : List S46) (hl : a.length = b.length) (hs : a.length < 2932031007402) : ∀ (k i : Nat), i ≤ a.length → a.length - i < k → api_Attr_31.l0 k a b (a.length : Int) (i : Int) = some (decide (keyL (a.drop i) = keyL (b.drop i)))
  | 0, i, _, hk => by omega
  | k + 1, i, hi, hk => by
    unfold api_Attr_31.l0
    by_cases h : i < a.length
    · rw [if_pos (by omega), if_pos (by omega), if_pos (by omega), if_pos (by omega), rd46_get a i h, rd46_get b i (by omega)]
      have ih := api31_loop a b hl hs k (i + 1) (by omega) (by omega)
      by_cases hd : nrm a[i] = nrm b[i]
      · rw [if_neg (by intro hc; exact (differs_iff _ _).1 (by simpa only [Bool.or_assoc] using hc) hd), wrap64_succ i (by omega), ih]
        congr 1
        rw [decide_eq_decide, keyL_drop a b i h (by omega)]
        exact ⟨fun h => ⟨hd, h⟩, fun h => h.2⟩
      · rw [if_pos (by simpa only [Bool.or_assoc] using (differs_iff _ _).2 hd)]
        congr 1
        rw [eq_comm, decide_eq_false_iff_not, keyL_drop a b i h (by omega)]
        exact fun h => hd h.1
    · rw [if_neg (by omega)]
      have e1 : a.drop i = [] := List.drop_eq_nil_of_le (by omega)
      have e2 : b.drop i = [] := List.drop_eq_nil_of_le (by omega)
      rw [e1, e2]; simp
theorem same_eq (k : Nat) (a b : List S46) (hs : a.length < 2932031007402) (hk : a.length < k) : attrs_Same.f k a b = some (decide (keyL a = keyL b)) := by
  unfold attrs_Same.f api_Attr_31.f
  by_cases hl : a.length = b.length
  · rw [if_pos (by omega)]
    have := api31_loop a b hl hs k 0 (by omega) (by omega)
    simp only [List.drop_zero] at this
    rw [show ((0 : Nat) : Int) = 0 from rfl] at this
    rw [this]; rfl
  · rw [if_neg (by omega)]
    have : keyL a ≠ keyL b := fun h => hl (by rw [← keyL_length a, ← keyL_length b, h])
    simp [this]

/-- so many places more -/
def addP (out : List S34) (n : Int) (set : List S46) : List S34 :=
  if n ≤ 0 then out else
    match out.getLast? with
    | some b => if keyL b.f1 = keyL set then out.dropLast ++ [⟨wrap64 (b.f0 + n), b.f1⟩] else out ++ [⟨n, set⟩]
    | none => out ++ [⟨n, set⟩]
theorem addP_length (out : List S34) (n : Int) (set : List S46) : (addP out n set).length ≤ out.length + 1 := by
  unfold addP
  split
  · omega
  · split
    · rename_i h
      split
      · simp only [List.length_append, List.length_dropLast, List.length_singleton]; omega
      · simp
    · simp
theorem addP_sets {P : List S46 → Prop} (out : List S34) (n : Int) (set : List S46) (ho : ∀ b ∈ out, P b.f1) (hs : P set) : ∀ b ∈ addP out n set, P b.f1 := by
  unfold addP
  split
  · exact ho
  · split
    · rename_i b h
      split
      · intro c hc
        rcases List.mem_append.1 hc with h1 | h1
        · exact ho c (List.dropLast_subset _ h1)
        · simp at h1; subst h1; exact ho b (List.mem_of_getLast? h)
      · intro c hc
        rcases List.mem_append.1 hc with h1 | h1
        · exact ho c h1
        · simp at h1; subst h1; exact hs
    · intro c hc
      rcases List.mem_append.1 hc with h1 | h1
      · exact ho c h1
      · simp at h1; subst h1; exact hs
theorem copy_eq (a : List S46) (h : a.length < 2932031007402) : attrs_Copy.f a = some a := by
  unfold attrs_Copy.f api_Attr_26.f
  simp [h]
theorem set_last (out : List S34) (x : S34) (h : out ≠ []) : out.set (out.length - 1) x = out.dropLast ++ [x] := by
  conv => lhs; rw [← List.dropLast_concat_getLast h]
  have hp := List.length_pos_iff.2 h
  rw [List.set_append_right _ _ (by simp)]
  simp
theorem add_eq (k : Nat) (out : List S34) (n : Int) (set : List S46) (hout : out.length < 4398046511104) (hset : set.length < 2932031007402) (hk : ∀ b ∈ out, b.f1.length < k ∧ b.f1.length < 2932031007402) :
    blocks_add.f k out n set = some (addP out n set) := by
  unfold blocks_add.f addP
  by_cases hn : n ≤ 0
  · rw [if_pos hn, if_pos hn]
  · rw [if_neg hn, if_neg hn, copy_eq set hset]
    have hw : wrap64 ((out.length : Int) - 1) = (out.length : Int) - 1 := wrap64_at _ (by omega)
    rw [hw]
    by_cases he : out = []
    · subst he
      simp
    · have hp := List.length_pos_iff.2 he
      have hgl : out.getLast? = some (out.getLast he) := List.getLast?_eq_some_getLast he
      have hrd : rd_T34 out ((out.length : Int) - 1) = out.getLast he := by
        unfold rd_T34
        rw [show ((out.length : Int) - 1).toNat = out.length - 1 by omega, List.getLast_eq_getElem]
        simp [show out.length - 1 < out.length by omega]
      rw [if_pos (by omega), if_pos (by omega), if_pos (by omega), hrd, hgl]
      have hb := hk _ (List.getLast_mem he)
      rw [same_eq k _ set hb.2 hb.1]
      simp only [Option.bind_some]
      by_cases hkey : keyL (out.getLast he).f1 = keyL set
      · rw [if_pos (by simpa using hkey), if_pos hkey, show ((out.length : Int) - 1).toNat = out.length - 1 by omega, set_last _ _ he]
      · rw [if_neg (by simpa using hkey), if_neg hkey, if_pos hout]
end Go.Proofs.Ytpnoeggnniagfaa.P
