-- by hand: ops.Same (slices.EqualFunc with a function of its own); plain facts about the comparisons
import Derived.Test.YtmjeoknamoegpaaPx12
namespace Go.Proofs.Ytmjeoknamoegpaa.P
open Go.RowKit Go.Proofs.YtmjeoknamoegpaaW.PrintWords Go.Proofs.YtmjeoknamoegpaaW.PrintLast Go.Proofs.YtmjeoknamoegpaaW.PrintMore
set_option linter.unusedVariables false
set_option linter.unusedSimpArgs false

theorem wrap_succ (i n : Nat) (h : i < n) (hn : n ≤ 9223372036854775807) : wrap64 ((i : Int) + 1) = ((i + 1 : Nat) : Int) := by unfold wrap64; omega
/-! ### keys: what a comparison looks at -/
def nrmV (x : S38) : Int × Int × Int × List UInt8 := (x.f0, x.f1, x.f2, x.f3.toList)
def nrmA (x : S40) : Int × Int × Int × Int × List UInt8 := (x.f0, nrmV x.f1)
def nrmC (x : S42) : Int × Bool × Int × Int × Int × List UInt8 := (x.f0, x.f1, nrmV x.f2)
abbrev KeyA := List (Int × Int × Int × Int × List UInt8)
abbrev KeyC := List (Int × Bool × Int × Int × Int × List UInt8)
abbrev KeyO := Int × Int × List Int × KeyA × KeyC
def keyA (a : List S40) : KeyA := a.map nrmA
def keyC (a : List S42) : KeyC := a.map nrmC
def keyO (x : S30) : KeyO := (x.f0, x.f1, x.f2, keyA x.f3, keyC x.f4)
theorem keyA_length (a : List S40) : (keyA a).length = a.length := by simp [keyA]
theorem keyC_length (a : List S42) : (keyC a).length = a.length := by simp [keyC]
instance decT0 : DecidableEq (List UInt8) := instDecidableEqList
instance decT1 : DecidableEq (Int × List UInt8) := instDecidableEqProd
instance decT2 : DecidableEq (Int × Int × List UInt8) := instDecidableEqProd
instance decT3 : DecidableEq (Int × Int × Int × List UInt8) := instDecidableEqProd
instance decT4 : DecidableEq (Int × Int × Int × Int × List UInt8) := instDecidableEqProd
instance decT5 : DecidableEq (Bool × Int × Int × Int × List UInt8) := instDecidableEqProd
instance decT6 : DecidableEq (Int × Bool × Int × Int × Int × List UInt8) := instDecidableEqProd
instance decKA : DecidableEq KeyA := instDecidableEqList
instance decKC : DecidableEq KeyC := instDecidableEqList
instance decT7 : DecidableEq (KeyA × KeyC) := instDecidableEqProd
instance decT8 : DecidableEq (List Int × KeyA × KeyC) := instDecidableEqProd
instance decT9 : DecidableEq (Int × List Int × KeyA × KeyC) := instDecidableEqProd
instance decKO : DecidableEq KeyO := instDecidableEqProd
instance decKOs : DecidableEq (List KeyO) := instDecidableEqList
def eqB {α : Type} [DecidableEq α] (a b : α) : Bool := decide (a = b)
theorem eqB_true {α : Type} [DecidableEq α] {a b : α} : eqB a b = true ↔ a = b := by unfold eqB; exact decide_eq_true_iff
theorem eqB_false {α : Type} [DecidableEq α] {a b : α} : eqB a b = false ↔ a ≠ b := by unfold eqB; exact decide_eq_false_iff_not
theorem eqB_congr {α β : Type} [DecidableEq α] [DecidableEq β] {a b : α} {c d : β} (h : a = b ↔ c = d) : eqB a b = eqB c d := by
  by_cases h1 : a = b
  · rw [eqB_true.2 h1, eqB_true.2 (h.1 h1)]
  · rw [eqB_false.2 h1, eqB_false.2 (fun h2 => h1 (h.2 h2))]
theorem differsA (x y : S40) : ((!(x.f0 == y.f0) || ((!(x.f1.f0 == y.f1.f0) || (!(x.f1.f1 == y.f1.f1)) || (!(x.f1.f2 == y.f1.f2)) || (!(x.f1.f3.toList == y.f1.f3.toList))))) = true) ↔ nrmA x ≠ nrmA y := by
  simp only [nrmA, nrmV, ne_eq, Prod.mk.injEq, Bool.or_eq_true, Bool.not_eq_true', beq_eq_false_iff_ne, ne_eq]
  by_cases h1 : x.f0 = y.f0 <;> by_cases h2 : x.f1.f0 = y.f1.f0 <;> by_cases h3 : x.f1.f1 = y.f1.f1 <;> by_cases h4 : x.f1.f2 = y.f1.f2 <;> by_cases h5 : x.f1.f3.toList = y.f1.f3.toList <;> simp [*]
theorem differsC (x y : S42) : ((!(x.f0 == y.f0) || (!(x.f1 == y.f1) || ((!(x.f2.f0 == y.f2.f0) || (!(x.f2.f1 == y.f2.f1)) || (!(x.f2.f2 == y.f2.f2)) || (!(x.f2.f3.toList == y.f2.f3.toList)))))) = true) ↔ nrmC x ≠ nrmC y := by
  simp only [nrmC, nrmV, ne_eq, Prod.mk.injEq, Bool.or_eq_true, Bool.not_eq_true', beq_eq_false_iff_ne, ne_eq]
  by_cases h1 : x.f0 = y.f0 <;> by_cases h0 : x.f1 = y.f1 <;> by_cases h2 : x.f2.f0 = y.f2.f0 <;> by_cases h3 : x.f2.f1 = y.f2.f1 <;> by_cases h4 : x.f2.f2 = y.f2.f2 <;> by_cases h5 : x.f2.f3.toList = y.f2.f3.toList <;> simp [*]
theorem rd40_get (a : List S40) (i : Nat) (h : i < a.length) : rd_T40 a (i : Int) = a[i] := by simp [rd_T40, h]
theorem rd42_get (a : List S42) (i : Nat) (h : i < a.length) : rd_T42 a (i : Int) = a[i] := by simp [rd_T42, h]
theorem rd30_get (a : List S30) (i : Nat) (h : i < a.length) : rd_T30 a (i : Int) = a[i] := by simp [rd_T30, h]
theorem rd_get (a : List Int) (i : Nat) (h : i < a.length) : rd a (i : Int) = a[i] := by simp [rd, h]
theorem map_drop_eq {α β : Type} (f : α → β) (a b : List α) (i : Nat) (ha : i < a.length) (hb : i < b.length) : ((a.drop i).map f = (b.drop i).map f) ↔ (f a[i] = f b[i] ∧ (a.drop (i + 1)).map f = (b.drop (i + 1)).map f) := by
  rw [List.drop_eq_getElem_cons ha, List.drop_eq_getElem_cons hb]
  simp only [List.map_cons, List.cons.injEq]

theorem eqI_loop (a b : List Int) (hl : a.length = b.length) (hs : a.length ≤ 9223372036854775807) : ∀ (k i : Nat), i ≤ a.length → a.length - i < k → slices_Equal_int32_int32.l0 k a b (a.length : Int) (i : Int) = some (eqB (a.drop i) (b.drop i))
  | 0, i, _, hk => by omega
  | k + 1, i, hi, hk => by
    unfold slices_Equal_int32_int32.l0
    by_cases h : i < a.length
    · rw [if_pos (by omega), if_pos (by omega), if_pos (by omega), if_pos (by omega), rd_get a i h, rd_get b i (by omega)]
      have ih := eqI_loop a b hl hs k (i + 1) (by omega) (by omega)
      have hm := map_drop_eq id a b i h (by omega)
      simp only [List.map_id, id] at hm
      by_cases hd : a[i] = b[i]
      · rw [if_pos hd, wrap_succ i _ h hs, ih, eqB_congr (hm.trans ⟨fun h => h.2, fun h => ⟨hd, h⟩⟩)]
      · rw [if_neg hd, eqB_false.2 (fun h => hd (hm.1 h).1)]
    · rw [if_neg (by omega)]
      rw [List.drop_eq_nil_of_le (by omega), List.drop_eq_nil_of_le (by omega), eqB_true.2 rfl]
theorem eqI (a b : List Int) (hs : a.length ≤ 9223372036854775807) (k : Nat) (hk : a.length < k) : slices_Equal_int32_int32.f k a b = some (eqB a b) := by
  unfold slices_Equal_int32_int32.f
  by_cases hl : a.length = b.length
  · rw [if_pos (by omega)]
    have := eqI_loop a b hl hs k 0 (by omega) (by omega)
    simpa using this
  · rw [if_neg (by omega), eqB_false.2 (fun h => hl (congrArg List.length h))]
theorem eqA_loop (a b : List S40) (hl : a.length = b.length) (hs : a.length ≤ 9223372036854775807) : ∀ (k i : Nat), i ≤ a.length → a.length - i < k → api_Attr_46.l0 k a b (a.length : Int) (i : Int) = some (eqB (keyA (a.drop i)) (keyA (b.drop i)))
  | 0, i, _, hk => by omega
  | k + 1, i, hi, hk => by
    unfold api_Attr_46.l0
    by_cases h : i < a.length
    · rw [if_pos (by omega), if_pos (by omega), if_pos (by omega), if_pos (by omega), rd40_get a i h, rd40_get b i (by omega)]
      have ih := eqA_loop a b hl hs k (i + 1) (by omega) (by omega)
      have hm := map_drop_eq nrmA a b i h (by omega)
      by_cases hd : nrmA a[i] = nrmA b[i]
      · rw [if_neg (fun hc => (differsA _ _).1 (by simpa only [Bool.or_assoc] using hc) hd), wrap_succ i _ h hs, ih]
        exact congrArg some (eqB_congr (hm.trans ⟨fun h => h.2, fun h => ⟨hd, h⟩⟩)).symm
      · rw [if_pos (by simpa only [Bool.or_assoc] using (differsA _ _).2 hd)]
        exact congrArg some (eqB_false.2 (fun h => hd (hm.1 h).1)).symm
    · rw [if_neg (by omega)]
      rw [List.drop_eq_nil_of_le (by omega), List.drop_eq_nil_of_le (by omega), eqB_true.2 rfl]
theorem eqA (a b : List S40) (hs : a.length ≤ 9223372036854775807) (k : Nat) (hk : a.length < k) : attrs_Same.f k a b = some (eqB (keyA a) (keyA b)) := by
  unfold attrs_Same.f api_Attr_46.f
  by_cases hl : a.length = b.length
  · rw [if_pos (by omega)]
    have := eqA_loop a b hl hs k 0 (by omega) (by omega)
    simp only [List.drop_zero] at this
    rw [show ((0 : Nat) : Int) = 0 from rfl] at this
    rw [this]; rfl
  · rw [if_neg (by omega), eqB_false.2 (fun h => hl (by rw [← keyA_length a, ← keyA_length b, h]))]; rfl
theorem eqC_loop (a b : List S42) (hl : a.length = b.length) (hs : a.length ≤ 9223372036854775807) : ∀ (k i : Nat), i ≤ a.length → a.length - i < k → api_Change_47.l0 k a b (a.length : Int) (i : Int) = some (eqB (keyC (a.drop i)) (keyC (b.drop i)))
  | 0, i, _, hk => by omega
  | k + 1, i, hi, hk => by
    unfold api_Change_47.l0
    by_cases h : i < a.length
    · rw [if_pos (by omega), if_pos (by omega), if_pos (by omega), if_pos (by omega), rd42_get a i h, rd42_get b i (by omega)]
      have ih := eqC_loop a b hl hs k (i + 1) (by omega) (by omega)
      have hm := map_drop_eq nrmC a b i h (by omega)
      by_cases hd : nrmC a[i] = nrmC b[i]
      · rw [if_neg (fun hc => (differsC _ _).1 (by simpa only [Bool.or_assoc] using hc) hd), wrap_succ i _ h hs, ih]
        exact congrArg some (eqB_congr (hm.trans ⟨fun h => h.2, fun h => ⟨hd, h⟩⟩)).symm
      · rw [if_pos (by simpa only [Bool.or_assoc] using (differsC _ _).2 hd)]
        exact congrArg some (eqB_false.2 (fun h => hd (hm.1 h).1)).symm
    · rw [if_neg (by omega)]
      rw [List.drop_eq_nil_of_le (by omega), List.drop_eq_nil_of_le (by omega), eqB_true.2 rfl]
theorem eqC (a b : List S42) (hs : a.length ≤ 9223372036854775807) (k : Nat) (hk : a.length < k) : patch_Same.f k a b = some (eqB (keyC a) (keyC b)) := by
  unfold patch_Same.f api_Change_47.f
  by_cases hl : a.length = b.length
  · rw [if_pos (by omega)]
    have := eqC_loop a b hl hs k 0 (by omega) (by omega)
    simp only [List.drop_zero] at this
    rw [show ((0 : Nat) : Int) = 0 from rfl] at this
    rw [this]; rfl
  · rw [if_neg (by omega), eqB_false.2 (fun h => hl (by rw [← keyC_length a, ← keyC_length b, h]))]; rfl

/-! ### the contracts, in this form -/
theorem equalI_calls (A0 : Option Addr) (c0 : Nat) (l0 : List Int) (A1 : Option Addr) (c1 : Nat) (l1 : List Int) (w : World) (hr0 : Kd.C (Kd.int .i32) w A0 l0.length l0) (hc0 : l0.length ≤ c0) (hr1 : Kd.C (Kd.int .i32) w A1 l1.length l1) (hc1 : l1.length ≤ c1) :
    Calls Try.prog 28 #[.slice A0 l0.length c0, .slice A1 l1.length c1] w fun e w' => e = .returned (.bool (eqB l0 l1)) ∧ Drawn0 w w' :=
  slices_Equal_int32_int32.calls (l0.length + 1) A0 c0 l0 A1 c1 l1 _ w hr0 hc0 hr1 hc1 (eqI l0 l1 hr0.2.1 _ (by omega))
theorem equalA_calls (A0 : Option Addr) (c0 : Nat) (l0 : List S40) (A1 : Option Addr) (c1 : Nat) (l1 : List S40) (w : World) (hr0 : Kd.C k40 w A0 l0.length l0) (hc0 : l0.length ≤ c0) (hr1 : Kd.C k40 w A1 l1.length l1) (hc1 : l1.length ≤ c1) :
    Calls Try.prog 29 #[.slice A0 l0.length c0, .slice A1 l1.length c1] w fun e w' => e = .returned (.bool (eqB (keyA l0) (keyA l1))) ∧ Below w.heap.size w w' :=
  (attrs_Same.calls (l0.length + 1) A0 c0 l0 A1 c1 l1 _ w hr0 hc0 hr1 hc1 (eqA l0 l1 hr0.2.1 _ (by omega))).mono fun e w' h => ⟨h.1, by first | exact h.2 | exact h.2.below⟩
theorem equalC_calls (A0 : Option Addr) (c0 : Nat) (l0 : List S42) (A1 : Option Addr) (c1 : Nat) (l1 : List S42) (w : World) (hr0 : Kd.C k42 w A0 l0.length l0) (hc0 : l0.length ≤ c0) (hr1 : Kd.C k42 w A1 l1.length l1) (hc1 : l1.length ≤ c1) :
    Calls Try.prog 30 #[.slice A0 l0.length c0, .slice A1 l1.length c1] w fun e w' => e = .returned (.bool (eqB (keyC l0) (keyC l1))) ∧ Below w.heap.size w w' :=
  (patch_Same.calls (l0.length + 1) A0 c0 l0 A1 c1 l1 _ w hr0 hc0 hr1 hc1 (eqC l0 l1 hr0.2.1 _ (by omega))).mono fun e w' h => ⟨h.1, by first | exact h.2 | exact h.2.below⟩
end Go.Proofs.Ytmjeoknamoegpaa.P
