-- plain facts about what the walked functions compute
import Derived.Test.YtpnoeggnniagfaaPx4
namespace Go.Proofs.Ytpnoeggnniagfaa.P
open Go.RowKit Go.Proofs.YtpnoeggnniagfaaW.PrintWords Go.Proofs.YtpnoeggnniagfaaW.PrintLast Go.Proofs.YtpnoeggnniagfaaW.PrintMore
set_option linter.unusedVariables false

theorem sameR_loop (a b : List S46) (hl : a.length = b.length) (hs : a.length < 2932031007402) : ∀ (k i : Nat), i ≤ a.length → a.length - i < k → rubricref05_Same.l0 k a b (i : Int) = some (decide (keyL (a.drop i) = keyL (b.drop i)))
  | 0, i, _, hk => by omega
  | k + 1, i, hi, hk => by
    unfold rubricref05_Same.l0
    by_cases h : i < a.length
    · rw [if_pos (by omega), if_pos (by omega), if_pos (by omega), rd46_get a i h, rd46_get b i (by omega)]
      have ih := sameR_loop a b hl hs k (i + 1) (by omega) (by omega)
      by_cases hd : nrm a[i] = nrm b[i]
      · rw [if_neg (by intro hc; exact (differs_iff _ _).1 (by simpa only [Bool.or_assoc] using hc) hd), wrap64_succ i (by omega), ih]
        congr 1
        rw [decide_eq_decide, keyL_drop a b i h (by omega)]
        exact ⟨fun h => ⟨hd, h⟩, fun h => h.2⟩
      · rw [if_pos (by simpa only [Bool.or_assoc] using (differs_iff _ _).2 hd)]
        congr 1
        rw [eq_comm, decide_eq_false_iff_not, keyL_drop a b i h (by omega)]
        exact fun h => hd h.1
    · rw [if_neg (by omega)]
      have e1 : a.drop i = [] := List.drop_eq_nil_of_le (by omega)
      have e2 : b.drop i = [] := List.drop_eq_nil_of_le (by omega)
      rw [e1, e2]; simp
theorem sameR_eq (k : Nat) (a b : List S46) (hs : a.length < 2932031007402) (hk : a.length < k) : rubricref05_Same.f k a b = some (decide (keyL a = keyL b)) := by
  unfold rubricref05_Same.f
  by_cases hl : a.length = b.length
  · rw [if_pos (by omega)]
    have := sameR_loop a b hl hs k 0 (by omega) (by omega)
    simp only [List.drop_zero] at this
    rw [show ((0 : Nat) : Int) = 0 from rfl] at this
    rw [this]
  · rw [if_neg (by omega)]
    have : keyL a ≠ keyL b := fun h => hl (by rw [← keyL_length a, ← keyL_length b, h])
    simp [this]
theorem addR_eq (k : Nat) (out : List S34) (n : Int) (set : List S46) (hout : out.length < 4398046511104) (hset : set.length < 2932031007402) (hk : ∀ b ∈ out, b.f1.length < k ∧ b.f1.length < 2932031007402) :
    rubricref12_Add.f k out n set = some (addP out n set) := by
  unfold rubricref12_Add.f addP
  simp only [Option.bind_some, List.length_nil, Nat.zero_add, List.nil_append]
  by_cases hn : n ≤ 0
  · rw [if_pos hn, if_pos hn]
  · rw [if_neg hn, if_neg hn, if_pos hset]
    have hw : wrap64 ((out.length : Int) - 1) = (out.length : Int) - 1 := wrap64_at _ (by omega)
    rw [hw]
    by_cases he : out = []
    · subst he
      simp
    · have hp := List.length_pos_iff.2 he
      have hgl : out.getLast? = some (out.getLast he) := List.getLast?_eq_some_getLast he
      have hrd : rd_T34 out ((out.length : Int) - 1) = out.getLast he := by
        unfold rd_T34
        rw [show ((out.length : Int) - 1).toNat = out.length - 1 by omega, List.getLast_eq_getElem]
        simp [show out.length - 1 < out.length by omega]
      rw [if_pos (by omega), if_pos (by omega), if_pos (by omega), hrd, hgl]
      have hb := hk _ (List.getLast_mem he)
      rw [sameR_eq k _ set hb.2 hb.1]
      simp only [Option.bind_some]
      by_cases hkey : keyL (out.getLast he).f1 = keyL set
      · rw [if_pos (by simpa using hkey), if_pos hkey, show ((out.length : Int) - 1).toNat = out.length - 1 by omega, set_last _ _ he]
      · rw [if_neg (by simpa using hkey), if_neg hkey, if_pos hout]

/-- one cell more -/
def ofStep (out : List S34) (c : S26) : List S34 := addP out 1 (if c.f0 = 10 then [] else c.f1)
def ofP (cells : List S26) : List S34 := cells.foldl ofStep []
theorem rd26_get (a : List S26) (i : Nat) (h : i < a.length) : rd_T26 a (i : Int) = a[i] := by simp [rd_T26, h]
theorem ofStep_sets (out : List S34) (c : S26) (ho : ∀ b ∈ out, b.f1.length ≤ 30) (hc : c.f1.length ≤ 30) : ∀ b ∈ ofStep out c, b.f1.length ≤ 30 :=
  addP_sets (P := fun s => s.length ≤ 30) _ _ _ ho (by split <;> simp_all)
theorem Of_loop (cells : List S26) (hl : cells.length ≤ 1000) (hc : ∀ c ∈ cells, c.f1.length ≤ 30) : ∀ (k i : Nat) (out : List S34), i ≤ cells.length → cells.length - i + 40 ≤ k → (∀ b ∈ out, b.f1.length ≤ 30) → out.length ≤ i →
    blocks_Of.l0 k out cells (cells.length : Int) (i : Int) = some ((cells.drop i).foldl ofStep out)
  | 0, i, _, _, hk, _, _ => by omega
  | k + 1, i, out, hi, hk, ho, hol => by
    unfold blocks_Of.l0
    by_cases h : i < cells.length
    · have hci := hc _ (List.getElem_mem h)
      rw [if_pos (by omega), if_pos (by omega), if_pos (by omega), rd26_get cells i h, wrap64_succ i (by omega)]
      have hk1 : ∀ b ∈ out, b.f1.length < k ∧ b.f1.length < 2932031007402 := fun b hb => by have := ho b hb; constructor <;> omega
      rw [add_eq k out 1 [] (by omega) (by simp) hk1, add_eq k out 1 cells[i].f1 (by omega) (by omega) hk1]
      simp only [Option.bind_some]
      have hst := ofStep_sets out cells[i] ho hci
      have hln : (ofStep out cells[i]).length ≤ i + 1 := by have := addP_length out 1 (if cells[i].f0 = 10 then [] else cells[i].f1); unfold ofStep; omega
      have ih := Of_loop cells hl hc k (i + 1) (ofStep out cells[i]) (by omega) (by omega) hst hln
      rw [List.drop_eq_getElem_cons h, List.foldl_cons]
      unfold ofStep at ih ⊢
      split
      · rename_i h10; rw [if_pos h10] at ih; exact ih
      · rename_i h10; rw [if_neg h10] at ih; exact ih
    · rw [if_neg (by omega), List.drop_eq_nil_of_le (by omega)]
      rfl
theorem Of_eq (cells : List S26) (hl : cells.length ≤ 1000) (hc : ∀ c ∈ cells, c.f1.length ≤ 30) (k : Nat) (hk : cells.length + 40 ≤ k) : blocks_Of.f k cells = some (ofP cells) := by
  unfold blocks_Of.f ofP
  have := Of_loop cells hl hc k 0 [] (by omega) (by omega) (by simp) (by simp)
  simpa using this
theorem OfR_loop (cells : List S26) (hl : cells.length ≤ 1000) (hc : ∀ c ∈ cells, c.f1.length ≤ 30) : ∀ (k i : Nat) (out : List S34), i ≤ cells.length → cells.length - i + 40 ≤ k → (∀ b ∈ out, b.f1.length ≤ 30) → out.length ≤ i →
    rubricref12_Of.l0 k cells out (i : Int) = some ((cells.drop i).foldl ofStep out)
  | 0, i, _, _, hk, _, _ => by omega
  | k + 1, i, out, hi, hk, ho, hol => by
    unfold rubricref12_Of.l0
    by_cases h : i < cells.length
    · have hci := hc _ (List.getElem_mem h)
      rw [if_pos (by omega), if_pos (by omega), rd26_get cells i h, wrap64_succ i (by omega)]
      have hk1 : ∀ b ∈ out, b.f1.length < k ∧ b.f1.length < 2932031007402 := fun b hb => by have := ho b hb; constructor <;> omega
      rw [addR_eq k out 1 [] (by omega) (by simp) hk1, addR_eq k out 1 cells[i].f1 (by omega) (by omega) hk1]
      simp only [Option.bind_some]
      have hst := ofStep_sets out cells[i] ho hci
      have hln : (ofStep out cells[i]).length ≤ i + 1 := by have := addP_length out 1 (if cells[i].f0 = 10 then [] else cells[i].f1); unfold ofStep; omega
      have ih := OfR_loop cells hl hc k (i + 1) (ofStep out cells[i]) (by omega) (by omega) hst hln
      rw [List.drop_eq_getElem_cons h, List.foldl_cons]
      unfold ofStep at ih ⊢
      split
      · rename_i h10; rw [if_pos h10] at ih; exact ih
      · rename_i h10; rw [if_neg h10] at ih; exact ih
    · rw [if_neg (by omega), List.drop_eq_nil_of_le (by omega)]
      rfl
theorem OfR_eq (cells : List S26) (hl : cells.length ≤ 1000) (hc : ∀ c ∈ cells, c.f1.length ≤ 30) (k : Nat) (hk : cells.length + 40 ≤ k) : rubricref12_Of.f k cells = some (ofP cells) := by
  unfold rubricref12_Of.f ofP
  have := OfR_loop cells hl hc k 0 [] (by omega) (by omega) (by simp) (by simp)
  simpa using this
end Go.Proofs.Ytpnoeggnniagfaa.P
