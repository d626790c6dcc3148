-- several texts in one: RowsP RowsA RowsW OpZ
import Derived.ChangeSame
import Derived.Deep.Fields
import Derived.Deep.Slices
import Derived.OpenShut
import Derived.SizedLaws
import Derived.Test.YtpnoeggnniagfaaRows
import Derived.Test.YtpnoeggnniagfaaZ3
namespace Go.Proofs.Ytpnoeggnniagfaa.P
open Go.RowKit Go.Proofs.YtpnoeggnniagfaaW.PrintWords Go.Proofs.YtpnoeggnniagfaaW.PrintLast Go.Proofs.YtpnoeggnniagfaaW.PrintMore
set_option linter.unusedVariables false
theorem JoinR_loop (l : List S34) (hl : l.length ≤ 1000) (hc : ∀ b ∈ l, b.f1.length ≤ 30) : ∀ (k i : Nat) (out : List S34), i ≤ l.length → l.length - i + 40 ≤ k → (∀ b ∈ out, b.f1.length ≤ 30) → out.length ≤ i →
    rubricref12_Join.l0 k l out (i : Int) = some ((l.drop i).foldl (fun o b => addP o b.f0 b.f1) out)
  | 0, i, _, _, hk, _, _ => by omega
  | k + 1, i, out, hi, hk, ho, hol => by
    unfold rubricref12_Join.l0
    by_cases h : i < l.length
    · have hci := hc _ (List.getElem_mem h)
      rw [if_pos (by omega), if_pos (by omega), rd34_get l i h, wrap64_succ i (by omega)]
      have hk1 : ∀ b ∈ out, b.f1.length < k ∧ b.f1.length < 2932031007402 := fun b hb => by have := ho b hb; constructor <;> omega
      rw [addR_eq k out l[i].f0 l[i].f1 (by omega) (by omega) hk1]
      simp only [Option.bind_some]
      have hln := addP_length out l[i].f0 l[i].f1
      rw [List.drop_eq_getElem_cons h, List.foldl_cons]
      exact JoinR_loop l hl hc k (i + 1) _ (by omega) (by omega) (addP_sets (P := fun s => s.length ≤ 30) _ _ _ ho hci) (by omega)
    · rw [if_neg (by omega), List.drop_eq_nil_of_le (by omega)]
      rfl
theorem JoinR_eq (l : List S34) (hl : l.length ≤ 1000) (hc : ∀ b ∈ l, b.f1.length ≤ 30) (k : Nat) (hk : l.length + 40 ≤ k) : rubricref12_Join.f k l = some (joinP l) := by
  unfold rubricref12_Join.f joinP
  have := JoinR_loop l hl hc k 0 [] (by omega) (by omega) (by simp) (by simp)
  simpa using this
/-! ### ref.Cut -/
def refCutP (l : List S34) (i j : Int) : List S34 := if mx i 0 < j then cutP l (mx i 0) j (List.finRange l.length) else []
theorem at_le (l : List S34) (ho : Ok l) (x : Fin l.length) : 0 ≤ atP l x.1 ∧ wrap64 (atP l x.1 + (l[x.1]'x.2).f0) = atP l x.1 + (l[x.1]'x.2).f0 ∧ atP l x.1 + (l[x.1]'x.2).f0 ≤ (rep l).length := by
  have hp := ho.p _ (List.getElem_mem x.2)
  have hs := ho.s
  have h1 := rep_at l x.1 x.2
  have h2 : (rep l).length = (rep (l.take x.1)).length + ((l[x.1]'x.2).f0.toNat + (rep (l.drop (x.1 + 1))).length) := by
    conv => lhs; rw [h1]
    simp
  rw [atP_eq l x.1 ho.p hs, wrap64_at _ (by omega)]
  exact ⟨by omega, rfl, by omega⟩
theorem cutP_congr (l : List S34) (i j j' : Int) : ∀ pre : List (Fin l.length), (∀ x ∈ pre, mn (wrap64 (atP l x.1 + (l[x.1]'x.2).f0)) j = mn (wrap64 (atP l x.1 + (l[x.1]'x.2).f0)) j') → cutP l i j pre = cutP l i j' pre := by
  intro pre
  unfold cutP
  generalize ([] : List S34) = out
  induction pre generalizing out with
  | nil => intro _; rfl
  | cons x pre ih =>
    intro h
    rw [List.foldl_cons, List.foldl_cons, h x (by simp)]
    exact ih _ (fun y hy => h y (by simp [hy]))
theorem cutP_nil (l : List S34) (ho : Ok l) (i j : Int) (hi : ((rep l).length : Int) ≤ i) (hi2 : i ≤ 9223372036854775807) (hj : 0 ≤ j) (hj2 : j ≤ 9223372036854775807) : ∀ pre : List (Fin l.length), cutP l i j pre = [] := by
  intro pre
  unfold cutP
  induction pre with
  | nil => rfl
  | cons x pre ih =>
    obtain ⟨h1, h2, h3⟩ := at_le l ho x
    have hs := ho.s
    have hp := ho.p _ (List.getElem_mem x.2)
    rw [List.foldl_cons]
    have hw : wrap64 (mn (wrap64 (atP l x.1 + (l[x.1]'x.2).f0)) j - mx (atP l x.1) i) ≤ 0 := by
      rw [h2, wrap64_at _ (by unfold mn mx; split <;> split <;> omega)]
      unfold mn mx
      split <;> split <;> omega
    have ha : addP [] (wrap64 (mn (wrap64 (atP l x.1 + (l[x.1]'x.2).f0)) j - mx (atP l x.1) i)) (l[x.1]'x.2).f1 = [] := by
      unfold addP
      rw [if_pos hw]
    rw [ha]
    exact ih
theorem cut_same (l : List S34) (ho : Ok l) (i j : Int) (hi : i ≤ 9223372036854775807) (hj : j ≤ 9223372036854775807) : blocks_Cut.f l i j = some (refCutP l i j) := by
  have hs := ho.s
  have hL : atP l l.length = (rep l).length := by rw [atP_eq l l.length ho.p hs, List.take_length]
  have hmx : ∀ x : Int, mx x 0 = if x < 0 then 0 else x := fun x => by unfold mx; first | rfl | (split <;> split <;> omega)
  have hmx0 : 0 ≤ mx i 0 := by rw [hmx]; split <;> omega
  have hmxi : mx i 0 ≤ 9223372036854775807 := by rw [hmx]; split <;> omega
  unfold blocks_Cut.f refCutP
  rw [if_pos ⟨by have := ho.n; omega, fun b hb => by have := ho.t b hb; omega⟩, hL]
  congr 1
  by_cases h1 : mx i 0 < j
  · rw [if_pos h1]
    have hj0 : mx j 0 = j := by rw [hmx, if_neg (by omega)]
    rw [hj0]
    by_cases h2 : mn j ((rep l).length : Int) ≤ mx i 0
    · rw [if_pos h2, cutP_nil l ho (mx i 0) j (by unfold mn at h2; split at h2 <;> omega) hmxi (by omega) hj]
    · rw [if_neg h2]
      refine cutP_congr l _ _ _ _ (fun x _ => ?_)
      obtain ⟨a1, a2, a3⟩ := at_le l ho x
      rw [a2]
      unfold mn
      split <;> split <;> (try split) <;> omega
  · rw [if_neg h1, if_pos]
    have : mx j 0 ≤ mx i 0 := by rw [hmx j]; split <;> omega
    unfold mn
    split <;> omega
theorem one_rep (m : List S34) (hp : ∀ b ∈ m, 0 < b.f0) (K : Key) (h : rep m = [K]) : ∃ b, m = [b] ∧ keyL b.f1 = K := by
  cases m with
  | nil => simp [rep] at h
  | cons b m =>
    have hb := hp b (by simp)
    rw [rep_cons] at h
    have hl := congrArg List.length h
    simp only [List.length_append, List.length_replicate, List.length_cons, List.length_nil] at hl
    have hb1 : b.f0.toNat = 1 := by omega
    have hm : m = [] := by
      cases m with
      | nil => rfl
      | cons c m =>
        have hc := hp c (by simp)
        rw [rep_cons] at hl
        simp only [List.length_append, List.length_replicate] at hl
        omega
    subst hm
    refine ⟨b, rfl, ?_⟩
    rw [hb1] at h
    simpa [rep] using h
/-- What stands at a place, and the cut that has that place alone. -/
theorem at_same (l : List S34) (ho : Ok l) (i : Int) (hi0 : -9223372036854775808 ≤ i) (hi : i ≤ 9223372036854775807) : ∃ set ok, blocks_At.f l i = some (set, ok) ∧ set.length ≤ 30 ∧
    ((ok = true ∧ i ≠ 9223372036854775807 ∧ ∃ b, refCutP l i (wrap64 (i + 1)) = [b] ∧ keyL set = keyL b.f1) ∨ (ok = false ∧ set = [] ∧ (i ≠ 9223372036854775807 → refCutP l i (wrap64 (i + 1)) = []))) := by
  have hs := ho.s
  by_cases h : 0 ≤ i ∧ i < (rep l).length
  · obtain ⟨set, h1, h2, h3⟩ := at_ok l ho i.toNat (by omega)
    rw [show ((i.toNat : Nat) : Int) = i from by omega] at h1
    refine ⟨set, true, h1, h3, .inl ⟨rfl, by omega, ?_⟩⟩
    have hw : wrap64 (i + 1) = i + 1 := wrap64_at _ (by omega)
    obtain ⟨m, c1, c2, _, _, _, c6⟩ := cut_ok l ho i (i + 1)
    rw [cut_same l ho i (i + 1) (by omega) (by omega)] at c1
    injection c1 with c1
    rw [hw, c1]
    have hr : rep m = [keyL set] := by
      rw [c6, show min (i + 1).toNat (rep l).length = i.toNat + 1 from by omega, List.take_add_one, h2, List.drop_append_of_le_length (by rw [List.length_take]; omega), List.drop_of_length_le (by rw [List.length_take]; omega)]
      rfl
    obtain ⟨b, hb1, hb2⟩ := one_rep m c2.1 _ hr
    exact ⟨b, hb1, hb2.symm⟩
  · have hh := at_hit l ho.p ho.s i
    have ha : blocks_At.f l i = some ([], false) := by
      unfold blocks_At.f
      rw [if_pos ⟨by have := ho.n; omega, fun b hb => by have := ho.t b hb; omega⟩]
      split at hh
      · rename_i x hx
        have hlt := (List.getElem?_eq_some_iff.1 hh.2).1
        exact absurd ⟨hh.1, by omega⟩ h
      · rename_i hx
        rw [hx]; rfl
    refine ⟨[], false, ha, by simp, .inr ⟨rfl, rfl, fun hne => ?_⟩⟩
    have hw : wrap64 (i + 1) = i + 1 := wrap64_at _ (by omega)
    rw [hw]
    unfold refCutP
    by_cases h0 : i < 0
    · rw [if_neg (by unfold mx; split <;> omega)]
    · split
      · exact cutP_nil l ho _ _ (by unfold mx; split <;> omega) (by unfold mx; split <;> omega) (by omega) (by omega) _
      · rfl
/-! ### Proper -/
def PropAt (l : List S34) (j : Nat) : Prop := ∀ h : j < l.length, 0 < (l[j]).f0 ∧ (∀ h0 : 0 < j, keyL (l[j - 1]'(by omega)).f1 ≠ keyL (l[j]).f1)
theorem proper_any (l : List S34) (hs : l.length ≤ 4000000) (hl : ∀ x ∈ l, x.f1.length < 2932031007402) : ∀ (k i : Nat), i ≤ l.length → l.length - i + 2932031007410 ≤ k → ∃ b, blocks_Proper.l0 k l l (l.length : Int) (i : Int) = some b ∧ (b = true ↔ ∀ j, i ≤ j → PropAt l j)
  | 0, i, _, hk => by omega
  | k + 1, i, hi, hk => by
    unfold blocks_Proper.l0
    by_cases h : i < l.length
    · obtain ⟨b, hb, hbb⟩ := proper_any l hs hl k (i + 1) (by omega) (by omega)
      have hli := hl _ (List.getElem_mem h)
      rw [if_pos (by omega), if_pos (by omega), if_pos (by omega), rd34_get l i h, wrap64_succ i (by omega), hb]
      have hstep : PropAt l i → (b = true ↔ ∀ j, i ≤ j → PropAt l j) := fun hp => by
        rw [hbb]
        exact ⟨fun hh j hj => by
          by_cases e : j = i
          · subst e; exact hp
          · exact hh j (by omega), fun hh j hj => hh j (by omega)⟩
      by_cases hp : (l[i]).f0 ≤ 0
      · rw [if_pos hp]
        refine ⟨false, rfl, ⟨(fun h2 => by cases h2), fun h2 => ?_⟩⟩
        have := (h2 i (Nat.le_refl _) h).1
        omega
      · rw [if_neg hp]
        by_cases h0 : 0 < i
        · have hw : wrap64 ((i : Int) - 1) = ((i - 1 : Nat) : Int) := by rw [wrap64_at _ (by omega)]; omega
          have hi1 := hl _ (List.getElem_mem (show i - 1 < l.length by omega))
          rw [if_pos (by omega), hw, if_pos (by omega), if_pos (by omega), rd34_get l (i - 1) (by omega), same_eq k _ _ (by omega) (by omega)]
          simp only [Option.bind_some]
          by_cases hk2 : keyL (l[i - 1]'(by omega)).f1 = keyL (l[i]).f1
          · rw [if_pos (decide_eq_true hk2)]
            exact ⟨false, rfl, ⟨(fun h2 => by cases h2), fun h2 => absurd hk2 ((h2 i (Nat.le_refl _) h).2 h0)⟩⟩
          · rw [if_neg (by simpa using hk2)]
            exact ⟨b, rfl, hstep (fun _ => ⟨by omega, fun _ => hk2⟩)⟩
        · rw [if_neg (by omega)]
          exact ⟨b, rfl, hstep (fun _ => ⟨by omega, fun h3 => absurd h3 h0⟩)⟩
    · rw [if_neg (by omega)]
      exact ⟨true, rfl, ⟨fun _ j hj h2 => by omega, fun _ => rfl⟩⟩
theorem apart_of : ∀ (l : List S34), (∀ (i : Nat) (h : i + 1 < l.length), keyL (l[i]'(by omega)).f1 ≠ keyL (l[i + 1]'h).f1) → Apart l
  | [], _ => trivial
  | [x], _ => by simp [Apart]
  | x :: y :: l, h => by
    have h0 := h 0 (by simp)
    have h1 := apart_of (y :: l) (fun i hi => by have := h (i + 1) (by simpa using hi); simpa using this)
    simpa [Apart] using ⟨h0, h1⟩
theorem proper_same (l : List S34) (ho : Ok l) (k : Nat) (hk : 3000000000000 ≤ k) : blocks_Proper.f k l = some (same34 (joinP l) l) := by
  obtain ⟨b, hb, hbb⟩ := proper_any l (by have := ho.n; omega) (fun x hx => by have := ho.t x hx; omega) k 0 (by omega) (by have := ho.n; omega)
  obtain ⟨j1, j2, j3⟩ := joinP_rep l ho.s
  unfold blocks_Proper.f
  have e0 : ((0 : Nat) : Int) = 0 := rfl
  rw [e0] at hb
  rw [hb]
  congr 1
  rw [Bool.eq_iff_iff, hbb]
  unfold same34
  rw [decide_eq_true_iff]
  constructor
  · intro h
    refine rep_unique _ _ j2.1 (fun x hx => ?_) j3 (apart_of l (fun i hi => ?_)) j1
    · obtain ⟨j, hj, rfl⟩ := List.getElem_of_mem hx
      exact (h j (Nat.zero_le _) hj).1
    · exact (h (i + 1) (Nat.zero_le _) hi).2 (by omega)
  · intro h j _ hj
    have hlen : (joinP l).length = l.length := by simpa using congrArg List.length h
    have hk : ∀ i (h1 : i < l.length), key34 ((joinP l)[i]'(by omega)) = key34 (l[i]) := fun i h1 => by
      have h2 := congrArg (fun z => z[i]?) h
      simp only [List.getElem?_map] at h2
      rw [List.getElem?_eq_getElem (by omega), List.getElem?_eq_getElem h1] at h2
      simpa using h2
    refine ⟨?_, fun h0 => ?_⟩
    · have h1 := hk j hj
      simp only [key34, Prod.mk.injEq] at h1
      rw [← h1.1]
      exact j2.1 _ (List.getElem_mem _)
    · have h1 := hk j hj
      have h2 := hk (j - 1) (by omega)
      simp only [key34, Prod.mk.injEq] at h1 h2
      have h3 := apart_at _ j3 (j - 1) (by omega)
      simp only [show j - 1 + 1 = j from by omega] at h3
      rw [← h1.2, ← h2.2]
      exact h3
end Go.Proofs.Ytpnoeggnniagfaa.P
namespace Go.Proofs.Ytpnoeggnniagfaa.P
open Go.RowKit Go.Proofs.YtpnoeggnniagfaaW.PrintWords Go.Proofs.YtpnoeggnniagfaaW.PrintLast Go.Proofs.YtpnoeggnniagfaaW.PrintMore
set_option linter.unusedVariables false
set_option linter.unusedSimpArgs false
set_option maxHeartbeats 4000000 in
set_option maxRecDepth 100000 in
theorem refLen_calls (A0 : Option Addr) (c0 : Nat) (l0 : List S34) (w : World) (hr0 : Kd.C k34 w A0 l0.length l0) (hc0 : l0.length ≤ c0) (hl : l0.length ≤ 100000) :
    Calls Try.prog 23 #[.slice A0 l0.length c0] w fun e w' => e = .returned (.int .i64 (atP l0 l0.length)) ∧ Below w.heap.size w w' := by
  have HR := Aside0.mk hr0
  clear hr0
  go_enter Try.func23, Try.ntmps23
  go_wp2_with fail
  go_loopw [3, 4] (fun n i wr => ∃ k : Nat, k ≤ l0.length ∧ i = .int .i64 k ∧ n = .int .i64 (atP l0 k) ∧ Aside0 (Below w.heap.size w wr)) (fun _ i _ => l0.length - (intOf i).toNat)
  case atStart => exact ⟨0, Nat.zero_le _, rfl, rfl, ⟨Below.refl _ _⟩⟩
  case round =>
    obtain ⟨k, hk, rfl, rfl, HB⟩ := hrel
    by_cases hlt : k < l0.length
    · obtain ⟨ad, A1, c1, eA, e0, e1, _, _⟩ := at_T34 (Kd.C_below HR.out HB.out) (k : Int) (by omega) (by omega)
      subst eA
      simp only [Int.toNat_natCast] at e0 e1
      have hki : (k : Int) < (l0.length : Int) := by omega
      have q0 : (0 : Int) ≤ (k : Int) := Int.natCast_nonneg k
      have hs : atP l0 (k + 1) = wrap64 (atP l0 k + (rd_T34 l0 (k : Int)).f0) := by
        rw [atP_succ l0 k hlt, rd34_get l0 k hlt, List.getD_eq_getElem?_getD, List.getElem?_eq_getElem hlt]; rfl
      have HS := Aside0.mk hs
      clear hs
      generalize rd_T34 l0 (k : Int) = x at e0 e1 HS
      generalize atP l0 k = t at HS ⊢
      go_wp2_with fail
      go_roundw
      case rel => exact ⟨k + 1, by omega, by go_num, by rw [HS.out], HB⟩
      case measure => simp [intOf]; omega
    · obtain rfl : k = l0.length := by omega
      go_wp2_with fail
      go_ret
      exact ⟨rfl, HB.out⟩
set_option maxHeartbeats 4000000 in
set_option maxRecDepth 100000 in
theorem refProper_calls (A0 : Option Addr) (c0 : Nat) (l0 : List S34) (w : World) (hr0 : Kd.C k34 w A0 l0.length l0) (hc0 : l0.length ≤ c0) (ho : Ok l0) :
    Calls Try.prog 22 #[.slice A0 l0.length c0] w fun e w' => e = .returned (.bool (same34 (joinP l0) l0)) ∧ Below w.heap.size w w' := by
  have HR := Aside0.mk hr0
  have HC := Aside0.mk hc0
  have HO := Aside0.mk ho
  clear hr0 hc0 ho
  go_enter Try.func22, Try.ntmps22
  go_wp2_with fail
  refine (rubricref12_Join.calls 3000 A0 c0 l0 (joinP l0) w HR.out HC.out (JoinR_eq l0 HO.out.n HO.out.t 3000 (by have := HO.out.n; omega))).mono ?_
  rintro e w1 ⟨v1, rfl, hS, hb⟩
  obtain ⟨A1, c1, rfl⟩ := Kd.S_slice hS
  have HS := Aside0.mk hS
  have HB := Aside0.mk hb
  clear hS hb
  go_wp2_with fail
  refine (rubricref12_Same.calls 3000 A1 c1 (joinP l0) A0 c0 l0 (same34 (joinP l0) l0) w1 (Kd.S_reads' HS.out).2.2 (Kd.S_reads' HS.out).2.1 (Kd.C_below HR.out HB.out) HC.out (sameB_eq _ _ (by have := (join_ok l0 HO.out).n; omega) (join_ok l0 HO.out).t 3000 (by have := (join_ok l0 HO.out).n; omega))).mono ?_
  rintro e w2 ⟨rfl, hb⟩
  have HB2 := Aside0.mk (below_step HB.out (Drawn0.below hb))
  clear hb
  obtain ⟨b, hb⟩ : ∃ b, same34 (joinP l0) l0 = b := ⟨_, rfl⟩
  rw [hb]
  have HBB := Aside0.mk hb
  clear hb
  go_wp2_with fail
  go_ret
  exact ⟨by rw [HBB.out]; rfl, HB2.out⟩
set_option maxHeartbeats 4000000 in
set_option maxRecDepth 100000 in
theorem refCut_calls (A0 : Option Addr) (c0 : Nat) (l0 : List S34) (i0 j0 : Int) (w : World) (hr0 : Kd.C k34 w A0 l0.length l0) (hc0 : l0.length ≤ c0) (ho : Ok l0) :
    Calls Try.prog 21 #[.slice A0 l0.length c0, .int .i64 i0, .int .i64 j0] w fun e w' => ∃ v0_ : Value, e = .returned v0_ ∧ Kd.S k34 34 w' w.heap.size (fun _ => True) v0_ (refCutP l0 i0 j0) ∧ Below w.heap.size w w' := by
  have HR := Aside0.mk hr0
  have HC := Aside0.mk hc0
  have HO := Aside0.mk ho
  have hl : l0.length ≤ 1000 := ho.n
  have hmx : mx i0 0 = if i0 < 0 then 0 else i0 := by unfold mx; first | rfl | (split <;> split <;> omega)
  have HRC : Aside0 (refCutP l0 i0 j0 = if mx i0 0 < j0 then cutP l0 (mx i0 0) j0 (List.finRange l0.length) else []) := ⟨rfl⟩
  generalize refCutP l0 i0 j0 = RR at HRC ⊢
  clear hr0 hc0 ho
  go_enter Try.func21, Try.ntmps21
  by_cases h0 : i0 < 0
  · have hI : mx i0 0 = 0 := by rw [hmx, if_pos h0]
    have HI : Aside0 (mx i0 0 = 0) := ⟨hI⟩
    rw [hI] at HRC
    clear hI
    go_wp2_with fail
    go_loopw [7, 8, 9] (fun o a i wr => ∃ k : Nat, k ≤ l0.length ∧ i = .int .i64 k ∧ a = .int .i64 (atP l0 k) ∧ Aside0 (Kd.S k34 34 wr w.heap.size (fun _ => True) o (cutP l0 0 j0 ((List.finRange l0.length).take k))) ∧ Aside0 (Below w.heap.size w wr) ∧ Aside0 (0 < j0 ∨ k = 0)) (fun _ _ i _ => l0.length - (intOf i).toNat)
    case atStart => exact ⟨0, Nat.zero_le _, rfl, rfl, ⟨Kd.S_nil _ _ _ _ _⟩, ⟨Below.refl _ _⟩, ⟨.inr rfl⟩⟩
    case round =>
      obtain ⟨k, hk, rfl, rfl, HS, HB, HK⟩ := hrel
      obtain ⟨Ao, co, rfl⟩ := Kd.S_slice HS.out
      have hol := cutP_length l0 0 j0 ((List.finRange l0.length).take k)
      have hos := cutP_sets l0 (fun s => s.length ≤ 30) HO.out.t 0 j0 ((List.finRange l0.length).take k)
      rw [List.length_take, List.length_finRange] at hol
      by_cases hlt : k < l0.length
      · have hsn : cutP l0 0 j0 ((List.finRange l0.length).take (k + 1)) = addP (cutP l0 0 j0 ((List.finRange l0.length).take k)) (wrap64 (mn (wrap64 (atP l0 k + (rd_T34 l0 (k : Int)).f0)) j0 - mx (atP l0 k) (0))) (rd_T34 l0 (k : Int)).f1 := by
          rw [fin_take_succ _ k hlt, cutP_snoc, rd34_get l0 k hlt]
        have hs1 : atP l0 (k + 1) = wrap64 (atP l0 k + (rd_T34 l0 (k : Int)).f0) := by
          rw [atP_succ l0 k hlt, rd34_get l0 k hlt, List.getD_eq_getElem?_getD, List.getElem?_eq_getElem hlt]; rfl
        have hx30 : (rd_T34 l0 (k : Int)).f1.length ≤ 30 := by rw [rd34_get l0 k hlt]; exact HO.out.t _ (List.getElem_mem hlt)
        have hki : (k : Int) < (l0.length : Int) := by omega
        have q0 : (0 : Int) ≤ (k : Int) := Int.natCast_nonneg k
        have e_ := at_T34 HR.out (k : Int) (by omega) (by omega)
        have HE := Aside0.mk e_
        have HSN := Aside0.mk hsn
        have HS1 := Aside0.mk hs1
        have HX30 := Aside0.mk hx30
        have HOL : Aside0 ((cutP l0 0 j0 ((List.finRange l0.length).take k)).length ≤ 1000) := ⟨by omega⟩
        have HOS := Aside0.mk hos
        clear hsn hs1 hx30 e_ hol hos
        obtain ⟨OUT, hOUT⟩ : ∃ O, cutP l0 0 j0 ((List.finRange l0.length).take k) = O := ⟨_, rfl⟩
        rw [hOUT] at HS HSN HOL HOS ⊢
        have HOL0 : Aside0 (OUT = cutP l0 0 j0 ((List.finRange l0.length).take k)) := ⟨hOUT.symm⟩
        clear hOUT
        generalize rd_T34 l0 (k : Int) = x at HE HSN HS1 HX30
        generalize atP l0 k = a at HSN HS1 ⊢
        obtain ⟨ad, A1, c1, eA, e0, e1, l1, f1⟩ := HE.out
        subst eA
        simp only [Int.toNat_natCast] at e0 e1
        replace e0 := (HB.out.cell (World.block_lt_of_cell? _ _ e0)).trans e0
        replace e1 := (HB.out.cell (World.block_lt_of_cell? _ _ e1)).trans e1
        have E1 := Aside0.mk e1
        have F1 := Aside0.mk (And.intro f1 l1)
        clear l1 f1 HE e1
        by_cases hij : 0 < j0
        · have hijb : decide (0 < j0) = true := decide_eq_true hij
          obtain ⟨t, ht⟩ : ∃ t, wrap64 (a + x.f0) = t := ⟨_, rfl⟩
          rw [ht] at HSN HS1
          have HTT := Aside0.mk ht
          clear ht
          go_wp2_with fail
          go_quiet (fail)
          rw [HTT.out]
          have HB2 := Aside0.mk (below_step HB.out (pw_below_drewN (Below.refl wr.heap.size wr) nq))
          have HS2 := Aside0.mk (Kd.S_drewN HS.out nq)
          have e1 : (wr.drewN nq).cell? ⟨(ad.add (k * 2)).block, (ad.add (k * 2)).off + 1, none⟩ = some (.slice A1 x.f1.length c1) := E1.out
          generalize wr.drewN nq = w2 at HB2 HS2 e1 ⊢
          clear e0
          by_cases h1 : a < 0
          all_goals
            by_cases h2 : t > j0
            all_goals
              obtain ⟨n, hn⟩ : ∃ n, wrap64 (mn t j0 - mx a (0)) = n := ⟨_, rfl⟩
              rw [hn] at HSN
              have hn2 := hn
              unfold mn mx at hn2
              (repeat (split at hn2)) <;> try omega
              try simp only [Int.sub_zero] at hn2
              have HN2 := Aside0.mk hn2
              clear hn hn2
              go_wp2_with fail
              rw [HN2.out]
              refine (rubricref12_Add.calls 3000 Ao co OUT n A1 c1 x.f1 (addP OUT n x.f1) w w2 HS2.out HB2.out F1.out.1 F1.out.2 (addR_eq 3000 OUT n x.f1 (by have := HOL.out; omega) (by have := HX30.out; omega) (fun b hb => by have := HOS.out b hb; omega))).mono ?_
              rintro e w3 ⟨v3, rfl, hS, hb⟩
              have HS3 := Aside0.mk hS
              have HB3 := Aside0.mk hb
              have HIJ : Aside0 (0 < j0 ∨ k + 1 = 0) := ⟨.inl hij⟩
              clear hS hb
              go_wp2_with fail
              go_roundw
              case rel => exact ⟨k + 1, by omega, by go_num, by rw [HS1.out], ⟨by rw [HSN.out]; exact HS3.out⟩, HB3, HIJ⟩
              case measure => simp [intOf]; omega
        · have hk0 : k = 0 := HK.out.resolve_left hij
          have hijb : decide (0 < j0) = false := decide_eq_false hij
          have HOE : Aside0 (OUT = RR) := ⟨by rw [HRC.out, if_neg hij]; have := HOL0.out; subst hk0; rw [this]; simp [cutP]⟩
          clear e0
          go_wp2_with fail
          go_ret
          exact ⟨_, rfl, by rw [← HOE.out]; exact HS.out, HB.out⟩
      · obtain rfl : k = l0.length := by omega
        have HOE : Aside0 (cutP l0 0 j0 ((List.finRange l0.length).take l0.length) = RR) := ⟨by
          rw [HRC.out]
          rcases HK.out with h | h
          · rw [if_pos h, List.take_of_length_le (by simp)]
          · have hz : List.finRange l0.length = [] := List.length_eq_zero_iff.1 (by simp [h])
            rw [hz]
            split <;> simp [cutP]⟩
        rw [HOE.out] at HS ⊢
        go_wp2_with fail
        go_ret
        exact ⟨_, rfl, HS.out, HB.out⟩
  · have hI : mx i0 0 = i0 := by rw [hmx, if_neg h0]
    have HI : Aside0 (mx i0 0 = i0) := ⟨hI⟩
    rw [hI] at HRC
    clear hI
    go_wp2_with fail
    go_loopw [7, 8, 9] (fun o a i wr => ∃ k : Nat, k ≤ l0.length ∧ i = .int .i64 k ∧ a = .int .i64 (atP l0 k) ∧ Aside0 (Kd.S k34 34 wr w.heap.size (fun _ => True) o (cutP l0 i0 j0 ((List.finRange l0.length).take k))) ∧ Aside0 (Below w.heap.size w wr) ∧ Aside0 (i0 < j0 ∨ k = 0)) (fun _ _ i _ => l0.length - (intOf i).toNat)
    case atStart => exact ⟨0, Nat.zero_le _, rfl, rfl, ⟨Kd.S_nil _ _ _ _ _⟩, ⟨Below.refl _ _⟩, ⟨.inr rfl⟩⟩
    case round =>
      obtain ⟨k, hk, rfl, rfl, HS, HB, HK⟩ := hrel
      obtain ⟨Ao, co, rfl⟩ := Kd.S_slice HS.out
      have hol := cutP_length l0 i0 j0 ((List.finRange l0.length).take k)
      have hos := cutP_sets l0 (fun s => s.length ≤ 30) HO.out.t i0 j0 ((List.finRange l0.length).take k)
      rw [List.length_take, List.length_finRange] at hol
      by_cases hlt : k < l0.length
      · have hsn : cutP l0 i0 j0 ((List.finRange l0.length).take (k + 1)) = addP (cutP l0 i0 j0 ((List.finRange l0.length).take k)) (wrap64 (mn (wrap64 (atP l0 k + (rd_T34 l0 (k : Int)).f0)) j0 - mx (atP l0 k) (i0))) (rd_T34 l0 (k : Int)).f1 := by
          rw [fin_take_succ _ k hlt, cutP_snoc, rd34_get l0 k hlt]
        have hs1 : atP l0 (k + 1) = wrap64 (atP l0 k + (rd_T34 l0 (k : Int)).f0) := by
          rw [atP_succ l0 k hlt, rd34_get l0 k hlt, List.getD_eq_getElem?_getD, List.getElem?_eq_getElem hlt]; rfl
        have hx30 : (rd_T34 l0 (k : Int)).f1.length ≤ 30 := by rw [rd34_get l0 k hlt]; exact HO.out.t _ (List.getElem_mem hlt)
        have hki : (k : Int) < (l0.length : Int) := by omega
        have q0 : (0 : Int) ≤ (k : Int) := Int.natCast_nonneg k
        have e_ := at_T34 HR.out (k : Int) (by omega) (by omega)
        have HE := Aside0.mk e_
        have HSN := Aside0.mk hsn
        have HS1 := Aside0.mk hs1
        have HX30 := Aside0.mk hx30
        have HOL : Aside0 ((cutP l0 i0 j0 ((List.finRange l0.length).take k)).length ≤ 1000) := ⟨by omega⟩
        have HOS := Aside0.mk hos
        clear hsn hs1 hx30 e_ hol hos
        obtain ⟨OUT, hOUT⟩ : ∃ O, cutP l0 i0 j0 ((List.finRange l0.length).take k) = O := ⟨_, rfl⟩
        rw [hOUT] at HS HSN HOL HOS ⊢
        have HOL0 : Aside0 (OUT = cutP l0 i0 j0 ((List.finRange l0.length).take k)) := ⟨hOUT.symm⟩
        clear hOUT
        generalize rd_T34 l0 (k : Int) = x at HE HSN HS1 HX30
        generalize atP l0 k = a at HSN HS1 ⊢
        obtain ⟨ad, A1, c1, eA, e0, e1, l1, f1⟩ := HE.out
        subst eA
        simp only [Int.toNat_natCast] at e0 e1
        replace e0 := (HB.out.cell (World.block_lt_of_cell? _ _ e0)).trans e0
        replace e1 := (HB.out.cell (World.block_lt_of_cell? _ _ e1)).trans e1
        have E1 := Aside0.mk e1
        have F1 := Aside0.mk (And.intro f1 l1)
        clear l1 f1 HE e1
        by_cases hij : i0 < j0
        · have hijb : decide (i0 < j0) = true := decide_eq_true hij
          obtain ⟨t, ht⟩ : ∃ t, wrap64 (a + x.f0) = t := ⟨_, rfl⟩
          rw [ht] at HSN HS1
          have HTT := Aside0.mk ht
          clear ht
          go_wp2_with fail
          go_quiet (fail)
          rw [HTT.out]
          have HB2 := Aside0.mk (below_step HB.out (pw_below_drewN (Below.refl wr.heap.size wr) nq))
          have HS2 := Aside0.mk (Kd.S_drewN HS.out nq)
          have e1 : (wr.drewN nq).cell? ⟨(ad.add (k * 2)).block, (ad.add (k * 2)).off + 1, none⟩ = some (.slice A1 x.f1.length c1) := E1.out
          generalize wr.drewN nq = w2 at HB2 HS2 e1 ⊢
          clear e0
          by_cases h1 : a < i0
          all_goals
            by_cases h2 : t > j0
            all_goals
              obtain ⟨n, hn⟩ : ∃ n, wrap64 (mn t j0 - mx a (i0)) = n := ⟨_, rfl⟩
              rw [hn] at HSN
              have hn2 := hn
              unfold mn mx at hn2
              (repeat (split at hn2)) <;> try omega
              try simp only [Int.sub_zero] at hn2
              have HN2 := Aside0.mk hn2
              clear hn hn2
              go_wp2_with fail
              rw [HN2.out]
              refine (rubricref12_Add.calls 3000 Ao co OUT n A1 c1 x.f1 (addP OUT n x.f1) w w2 HS2.out HB2.out F1.out.1 F1.out.2 (addR_eq 3000 OUT n x.f1 (by have := HOL.out; omega) (by have := HX30.out; omega) (fun b hb => by have := HOS.out b hb; omega))).mono ?_
              rintro e w3 ⟨v3, rfl, hS, hb⟩
              have HS3 := Aside0.mk hS
              have HB3 := Aside0.mk hb
              have HIJ : Aside0 (i0 < j0 ∨ k + 1 = 0) := ⟨.inl hij⟩
              clear hS hb
              go_wp2_with fail
              go_roundw
              case rel => exact ⟨k + 1, by omega, by go_num, by rw [HS1.out], ⟨by rw [HSN.out]; exact HS3.out⟩, HB3, HIJ⟩
              case measure => simp [intOf]; omega
        · have hk0 : k = 0 := HK.out.resolve_left hij
          have hijb : decide (i0 < j0) = false := decide_eq_false hij
          have HOE : Aside0 (OUT = RR) := ⟨by rw [HRC.out, if_neg hij]; have := HOL0.out; subst hk0; rw [this]; simp [cutP]⟩
          clear e0
          go_wp2_with fail
          go_ret
          exact ⟨_, rfl, by rw [← HOE.out]; exact HS.out, HB.out⟩
      · obtain rfl : k = l0.length := by omega
        have HOE : Aside0 (cutP l0 i0 j0 ((List.finRange l0.length).take l0.length) = RR) := ⟨by
          rw [HRC.out]
          rcases HK.out with h | h
          · rw [if_pos h, List.take_of_length_le (by simp)]
          · have hz : List.finRange l0.length = [] := List.length_eq_zero_iff.1 (by simp [h])
            rw [hz]
            split <;> simp [cutP]⟩
        rw [HOE.out] at HS ⊢
        go_wp2_with fail
        go_ret
        exact ⟨_, rfl, HS.out, HB.out⟩
end Go.Proofs.Ytpnoeggnniagfaa.P
namespace Go.Proofs.Ytpnoeggnniagfaa.P
open Go.RowKit Go.Proofs.YtpnoeggnniagfaaW.PrintWords Go.Proofs.YtpnoeggnniagfaaW.PrintLast Go.Proofs.YtpnoeggnniagfaaW.PrintMore
set_option linter.unusedVariables false
set_option linter.unusedSimpArgs false
/-! ### whole numbers written over, in the blocks of P -/
structure SKP (P : Nat → Prop) (W W' : World) : Prop where
  below : Below 0 W W'
  block : ∀ k, ¬ P k → W'.heap[k]? = W.heap[k]?
  int : ∀ p kd x, W.cell? p = some (.int kd x) → ∃ y, W'.cell? p = some (.int kd y)
  rest : ∀ p v, W.cell? p = some v → (∀ kd x, v ≠ .int kd x) → W'.cell? p = some v
  frozen : ∀ p : Addr, W'.frozen? p = W.frozen? p
theorem SKP.refl (P : Nat → Prop) (W : World) : SKP P W W := ⟨Below.refl _ _, fun _ _ => rfl, fun _ _ x h => ⟨x, h⟩, fun _ _ h _ => h, fun _ => rfl⟩
theorem SKP.put {P : Nat → Prop} {W W1 : World} (h : SKP P W W1) {p : Addr} {kd : IntKind} {x : Int} (hp : P p.block) (hc : W1.cell? p = some (.int kd x)) (y : Int) : SKP P W (W1.setCell p (.int kd y)) := by
  refine ⟨h.below.setCell (Nat.zero_le _) _, fun k hk => (Below.heap_setCell W1 p _ k (fun e => hk (e ▸ hp))).trans (h.block k hk), fun q kd2 z hq => ?_, fun q v hq hv => ?_, fun q => by rw [World.frozen?_setCell]; exact h.frozen q⟩
  · obtain ⟨z2, hz2⟩ := h.int q kd2 z hq
    by_cases e : p = q
    · subst e
      rw [hc] at hz2
      injection hz2 with hz2
      injection hz2 with e1 _
      subst e1
      exact ⟨y, World.cell?_setCell_same _ _ _ hc⟩
    · exact ⟨z2, by rw [World.cell?_setCell_other _ _ _ _ e]; exact hz2⟩
  · have h2 := h.rest q v hq hv
    by_cases e : p = q
    · subst e
      rw [hc] at h2
      injection h2 with h2
      exact absurd h2.symm (hv kd x)
    · rw [World.cell?_setCell_other _ _ _ _ e]; exact h2
theorem SKP.up {P : Nat → Prop} {B : Nat} {W W1 : World} (h : SKP P W W1) (hP : ∀ k, P k → B ≤ k) : Below B W W1 := ⟨h.below.os, h.below.tape, h.below.output, h.below.size, fun k hk => h.block k (fun h2 => by have := hP k h2; omega)⟩
/-- A row of n pieces of sz cells each; each begins with a whole number that may be written over. -/
def RowP (W : World) (P : Nat → Prop) (A : Option Addr) (n sz : Nat) (kd : IntKind) : Prop := 0 < n → ∃ g, A = some ⟨g, 0, none⟩ ∧ P g ∧ ∀ j, j < n → ∃ x, W.cell? ⟨g, j * sz, none⟩ = some (.int kd x) ∧ W.frozen? ⟨g, j * sz, none⟩ = false
theorem RowP.of {α : Type} {d : Kd α} {e base : Nat} {ok : Nat → Prop} {w : World} {v : Value} {xs : List α} {kd : IntKind} (h : d.R e w base ok v xs) (z : α) (hM : ∀ x c ok, d.M w base ok x c → ∃ y, c[0]? = some (.int kd y)) : ∃ A c, v = .slice A xs.length c ∧ xs.length ≤ c ∧ RowP w ok A xs.length d.sz kd := by
  obtain ⟨A, c, hv, hc, _⟩ := Kd.R_reads h
  refine ⟨A, c, hv, hc, fun hn => ?_⟩
  obtain ⟨g, c2, hv2, _, _⟩ := Kd.R_form h hn
  rw [hv] at hv2
  injection hv2 with e1 _ e3
  subst e1
  subst hv
  refine ⟨g, rfl, h.1 g (by simp [Value.ownBlock]), fun j hj => ?_⟩
  obtain ⟨cs, _, hm, hcc, hfr⟩ := Kd.R_elem h z (j : Int) (by omega) (by omega)
  obtain ⟨y, hy⟩ := hM _ _ _ hm
  exact ⟨y, hcc 0 _ hy, hfr 0⟩
theorem SKP.trans {P : Nat → Prop} {W W1 W2 : World} (h : SKP P W W1) (k : SKP P W1 W2) : SKP P W W2 := by
  refine ⟨h.below.trans k.below, fun j hj => (k.block j hj).trans (h.block j hj), fun p kd x hp => ?_, fun p v hp hv => k.rest p v (h.rest p v hp hv) hv, fun p => (k.frozen p).trans (h.frozen p)⟩
  obtain ⟨y, hy⟩ := h.int p kd x hp
  exact k.int p kd y hy
theorem row46 {w : World} {base : Nat} {ok : Nat → Prop} {v : Value} {xs : List S46} (h : k46.R 46 w base ok v xs) : ∃ A c, v = .slice A xs.length c ∧ xs.length ≤ c ∧ RowP w ok A xs.length 5 .i64 := RowP.of h z46 (fun x c ok hm => ⟨x.f0, by rw [k46_openM hm]; rfl⟩)
/-- A block of a row of one's own. -/
theorem blk_row {w : World} {base : Nat} {ok : Nat → Prop} {g n cap : Nat} {L : List S34} (h : Kd.S k34 34 w base ok (.slice (some ⟨g, 0, none⟩) n cap) L) (i : Nat) (hi : i < n) :
    ∃ (o : S34) (A : Option Addr) (c : Nat), L[i]? = some o ∧ o.f1.length ≤ c ∧ w.cell? ⟨g, i * 2, none⟩ = some (.int .i64 o.f0) ∧ w.frozen? ⟨g, i * 2, none⟩ = false ∧
      w.cell? ⟨g, i * 2 + 1, none⟩ = some (.slice A o.f1.length c) ∧ RowP w (fun k => base ≤ k) A o.f1.length 5 .i64 := by
  have hn := (Kd.S_reads' h).1
  obtain ⟨oki, c, hcl, hM, hcc, hfr, hoki, hH⟩ := Kd.S_elem h z34 (i : Int) (by omega) (by omega)
  have hM2 := k34.M_mono (ok' := fun k => base ≤ k) (fun k hk => hk.2.1) (k34.M_bound hM)
  obtain ⟨v1, rfl, h2⟩ := k34_openM hM2
  obtain ⟨o, ho⟩ : ∃ o, L[i]? = some o := ⟨_, List.getElem?_eq_getElem (by omega)⟩
  have e : L.getD (i : Int).toNat z34 = o := by rw [Int.toNat_natCast, List.getD_eq_getElem?_getD, ho]; rfl
  rw [e] at h2 hcc
  clear hcl hM hH hM2
  obtain ⟨A, c2, rfl, a2, r2⟩ := row46 h2
  exact ⟨o, A, c2, ho, a2, hcc 0 _ rfl, hfr 0, hcc 1 _ rfl, r2⟩
theorem arr_at0 (A B : Option Addr) (n c m d : Nat) (w : World) : (Instr.index 47 (.agg #[.slice A n c, .slice B m d]) (.int .i64 0)).run Try.prog w = .ok (.slice A n c) w := by
  simp [Instr.index, run_underlying Try.underlying47, asIntOf, go_sem]
theorem arr_at1 (A B : Option Addr) (n c m d : Nat) (w : World) : (Instr.index 47 (.agg #[.slice A n c, .slice B m d]) (.int .i64 1)).run Try.prog w = .ok (.slice B m d) w := by
  simp [Instr.index, run_underlying Try.underlying47, asIntOf, go_sem]
theorem copyR_loop (l : List S34) (hl : l.length ≤ 1000) (hc : ∀ b ∈ l, b.f1.length ≤ 30) : ∀ (k i : Nat) (out : List S34), i ≤ l.length → l.length - i + 1 ≤ k → out.length = i → rubricref12_Copy.l0 k l out (i : Int) = some (out ++ l.drop i)
  | 0, i, _, _, hk, _ => by omega
  | k + 1, i, out, hi, hk, ho => by
    unfold rubricref12_Copy.l0
    by_cases h : i < l.length
    · have hci := hc _ (List.getElem_mem h)
      rw [if_pos (by omega), if_pos (by omega), rd34_get l i h, wrap64_succ i (by omega)]
      simp only [Option.bind_some, List.length_nil, Nat.zero_add, List.nil_append]
      rw [if_pos (by omega), if_pos (by omega), copyR_loop l hl hc k (i + 1) _ (by omega) (by omega) (by simp [ho]), List.drop_eq_getElem_cons h, List.append_assoc]
      rfl
    · rw [if_neg (by omega), List.drop_eq_nil_of_le (by omega)]
      simp
theorem copyR_eq (l : List S34) (hl : l.length ≤ 1000) (hc : ∀ b ∈ l, b.f1.length ≤ 30) : rubricref12_Copy.f 3000 l = some l := by
  unfold rubricref12_Copy.f
  have := copyR_loop l hl hc 3000 0 [] (by omega) (by omega) rfl
  simpa using this
theorem same34_self (l : List S34) : same34 l l = true := by unfold same34; exact decide_eq_true rfl
theorem cutR_ok (l : List S34) (ho : Ok l) (i j : Int) (hi : i ≤ 9223372036854775807) (hj : j ≤ 9223372036854775807) : (refCutP l i j).length ≤ 1000 ∧ ∀ b ∈ refCutP l i j, b.f1.length ≤ 30 := by
  obtain ⟨m, h1, _, _, h4, _, _⟩ := cut_ok l ho i j
  rw [cut_same l ho i j hi hj] at h1
  injection h1 with h1
  rw [h1]
  exact ⟨h4.n, h4.t⟩
set_option maxHeartbeats 8000000 in
set_option maxRecDepth 100000 in
theorem rows7 (A0 : Option Addr) (c0 : Nat) (l0 : List S34) (i0 j0 : Int) (w : World) (hr0 : Kd.C k34 w A0 l0.length l0) (hc0 : l0.length ≤ c0) (hz2 : ∀ b ∈ l0, b.f1.length < 2932031007402) (hi1 : -9223372036854775808 ≤ i0) (hi2 : i0 ≤ 9223372036854775807) (hj1 : -9223372036854775808 ≤ j0) (hj2 : j0 ≤ 9223372036854775807) :
    Calls Try.prog 7 #[.slice A0 l0.length c0, .int .i64 i0, .int .i64 j0] w fun e w' => e = .returned (.bool true) ∧ Below w.heap.size w w' := by
  have HR := Aside0.mk hr0
  have HC := Aside0.mk hc0
  have HZ := Aside0.mk hz2
  obtain ⟨K, hK⟩ : ∃ K : Nat, 3000000000000 ≤ K := ⟨_, Nat.le_refl _⟩
  have HKK := Aside0.mk hK
  clear hK
  have HIJ := Aside0.mk (And.intro (And.intro hi1 hi2) (And.intro hj1 hj2))
  obtain ⟨t, ht, htt⟩ := tame_eq l0 3000 (by omega)
  have HT := Aside0.mk ht
  have HTT := Aside0.mk htt
  clear hr0 hc0 hz2 ht htt hi1 hi2 hj1 hj2
  go_enter Try.func7, Try.ntmps7
  go_wp2_with fail
  refine (rubriclaw12_tame.calls 3000 A0 c0 l0 t w HR.out HC.out HT.out).mono ?_
  rintro e w1 ⟨rfl, hb⟩
  have HB1 : Aside0 (Below w.heap.size w w1) := ⟨by first | exact hb | exact Drawn0.below hb⟩
  clear hb HT
  cases t with
  | false =>
    clear HTT
    by_cases hl : (l0.length : Int) < 1000
    · have hlb : decide ((l0.length : Int) < 1000) = true := decide_eq_true hl
      obtain ⟨b, hb, _⟩ := proper_any l0 (by omega) HZ.out K 0 (by omega) (by have := HKK.out; omega)
      have HP : Aside0 (blocks_Proper.f K l0 = some b) := ⟨hb⟩
      clear hb
      go_wp2_with fail
      refine (blocks_Proper.calls K A0 c0 l0 b w1 (Kd.C_below HR.out HB1.out) HC.out HP.out).mono ?_
      rintro e w2 ⟨rfl, hb⟩
      have HB2 : Aside0 (Below w.heap.size w w2) := ⟨below_step HB1.out (by first | exact hb | exact Drawn0.below hb)⟩
      clear hb
      obtain ⟨r1, r2, ha⟩ : ∃ r1 r2, blocks_At.f l0 i0 = some (r1, r2) := by
        unfold blocks_At.f
        rw [if_pos ⟨by omega, HZ.out⟩]
        exact ⟨_, _, rfl⟩
      have HA := Aside0.mk ha
      clear ha
      go_wp2_with fail
      refine (blocks_At.calls A0 c0 l0 i0 r1 r2 w2 (Kd.C_below HR.out HB2.out) HC.out HA.out).mono ?_
      rintro e w3 ⟨v3, rfl, _, hb⟩
      have HB3 := Aside0.mk (below_step HB2.out hb)
      clear hb
      go_wp2_with fail
      refine (blocks_Len.calls A0 c0 l0 (atP l0 l0.length) w3 (Kd.C_below HR.out HB3.out) HC.out (by unfold blocks_Len.f; rw [if_pos (by omega)])).mono ?_
      rintro e w4 ⟨rfl, hb⟩
      have HB4 := Aside0.mk (below_step HB3.out hb)
      clear hb
      generalize atP l0 l0.length = n
      go_wp2_with fail
      refine (rubriclaw12_known.calls true w4 rfl).mono ?_
      rintro e w5 ⟨rfl, hb⟩
      have HB5 := Aside0.mk (below_step HB4.out hb)
      clear hb
      go_wp2_with fail
      go_ret
      exact ⟨rfl, HB5.out⟩
    · have hlb : decide ((l0.length : Int) < 1000) = false := decide_eq_false hl
      go_wp2_with fail
      refine (rubriclaw12_known.calls true w1 rfl).mono ?_
      rintro e w5 ⟨rfl, hb⟩
      have HB5 := Aside0.mk (below_step HB1.out hb)
      clear hb
      go_wp2_with fail
      go_ret
      exact ⟨rfl, HB5.out⟩
  | true =>
    have HO := Aside0.mk (tame_ok l0 (HTT.out rfl))
    have HL : Aside0 (l0.length ≤ 200) := ⟨(HTT.out rfl).1⟩
    clear HTT HZ
    go_wp2_with fail
    refine (rubricref12_Copy.calls 3000 A0 c0 l0 l0 w1 (Kd.C_below HR.out HB1.out) HC.out (copyR_eq l0 HO.out.n HO.out.t)).mono ?_
    rintro e w2 ⟨v2, rfl, hS, hb⟩
    obtain ⟨AI, cI, rfl⟩ := Kd.S_slice hS
    have HIN := Aside0.mk hS
    have HB2 := Aside0.mk (below_step HB1.out hb)
    have HW2 : Aside0 (w.heap.size ≤ w2.heap.size) := ⟨HB2.out.size⟩
    clear hS hb
    have HJO := Aside0.mk (join_ok l0 HO.out)
    have HCO := Aside0.mk (cutR_ok l0 HO.out i0 j0 HIJ.out.1.2 HIJ.out.2.2)
    go_wp2_with fail
    refine (blocks_Join.calls 3000 AI cI l0 (joinP l0) w2 (Kd.S_reads' HIN.out).2.2 (Kd.S_reads' HIN.out).2.1 (Join_eq l0 HO.out.n HO.out.t 3000 (by have := HO.out.n; omega))).mono ?_
    rintro e w3 ⟨v3, rfl, hS, hb⟩
    obtain ⟨LA, hLA⟩ : ∃ L, joinP l0 = L := ⟨_, rfl⟩
    obtain ⟨LB, hLB⟩ : ∃ L, refCutP l0 i0 j0 = L := ⟨_, rfl⟩
    rw [hLA] at hS HJO
    rw [hLB] at HCO
    have HLA := Aside0.mk hLA
    have HLB := Aside0.mk hLB
    clear hLA hLB
    obtain ⟨AA, cA, rfl⟩ := Kd.S_slice hS
    have HA3 := Aside0.mk hS
    have B3 := Aside0.mk hb
    have HB3 := Aside0.mk (below_step HB2.out hb)
    clear hS hb
    go_wp2_with fail
    refine (blocks_Cut.calls AI cI l0 i0 j0 LB w3 (Kd.C_below (Kd.S_reads' HIN.out).2.2 B3.out) (Kd.S_reads' HIN.out).2.1 (by rw [cut_same l0 HO.out i0 j0 HIJ.out.1.2 HIJ.out.2.2, HLB.out])).mono ?_
    rintro e w4 ⟨v4, rfl, hS, hb⟩
    obtain ⟨AB, cB, rfl⟩ := Kd.S_slice hS
    have HBB4 := Aside0.mk hS
    have HA4 := Aside0.mk (Kd.S_below HA3.out hb)
    have B4 := Aside0.mk (below_step B3.out hb)
    have B34 := Aside0.mk hb
    have HB4 := Aside0.mk (below_step HB3.out hb)
    clear hS hb
    go_wp2_with fail
    refine (rubricref12_Join.calls 3000 A0 c0 l0 LA w4 (Kd.C_below HR.out HB4.out) HC.out (by rw [JoinR_eq l0 HO.out.n HO.out.t 3000 (by have := HO.out.n; omega), HLA.out])).mono ?_
    rintro e w5 ⟨v5, rfl, hS, hb⟩
    obtain ⟨AX, cX, rfl⟩ := Kd.S_slice hS
    have HX5 := Aside0.mk hS
    have B45 := Aside0.mk hb
    have HB5 := Aside0.mk (below_step HB4.out hb)
    clear hS hb
    go_wp2_with fail
    refine (refCut_calls A0 c0 l0 i0 j0 w5 (Kd.C_below HR.out HB5.out) HC.out HO.out).mono ?_
    rintro e w6 ⟨v6, rfl, hS, hb⟩
    rw [HLB.out] at hS
    obtain ⟨AY, cY, rfl⟩ := Kd.S_slice hS
    have HY6 := Aside0.mk hS
    have HX6 := Aside0.mk (Kd.S_below HX5.out hb)
    have B46 := Aside0.mk (below_step B45.out hb)
    have HB6 := Aside0.mk (below_step HB5.out hb)
    clear hS hb
    go_wp2_with fail
    refine (rubricref12_Same.calls 3000 AA cA LA AX cX LA true w6 (Kd.C_below (Kd.S_reads' HA4.out).2.2 B46.out) (Kd.S_reads' HA4.out).2.1 (Kd.S_reads' HX6.out).2.2 (Kd.S_reads' HX6.out).2.1 (by rw [sameB_eq LA LA (by have := HJO.out.n; omega) HJO.out.t 3000 (by have := HJO.out.n; omega), same34_self])).mono ?_
    rintro e w7 ⟨rfl, hb⟩
    have B67 : Aside0 (Below w6.heap.size w6 w7) := ⟨(by first | exact hb | exact Drawn0.below hb)⟩
    have B47 := Aside0.mk (below_step B46.out B67.out)
    have HB7 := Aside0.mk (below_step HB6.out B67.out)
    clear hb
    go_wp2_with fail
    refine (rubricref12_Same.calls 3000 AB cB LB AY cY LB true w7 (Kd.C_below (Kd.S_reads' HBB4.out).2.2 B47.out) (Kd.S_reads' HBB4.out).2.1 (Kd.C_below (Kd.S_reads' HY6.out).2.2 B67.out) (Kd.S_reads' HY6.out).2.1 (by rw [sameB_eq LB LB (by have := HCO.out.1; omega) HCO.out.2 3000 (by have := HCO.out.1; omega), same34_self])).mono ?_
    rintro e w8 ⟨rfl, hb⟩
    have B78 : Aside0 (Below w7.heap.size w7 w8) := ⟨(by first | exact hb | exact Drawn0.below hb)⟩
    have B48 := Aside0.mk (below_step B47.out B78.out)
    have HB8 := Aside0.mk (below_step HB7.out B78.out)
    clear hb
    obtain ⟨pb, hpb⟩ : ∃ b, same34 (joinP l0) l0 = b := ⟨_, rfl⟩
    have HPB := Aside0.mk hpb
    clear hpb
    have BI4 := Aside0.mk (below_step B3.out B34.out)
    go_wp2_with fail
    refine (blocks_Proper.calls K AI cI l0 pb w8 (Kd.C_below (Kd.S_reads' HIN.out).2.2 (below_step BI4.out B48.out)) (Kd.S_reads' HIN.out).2.1 (by rw [proper_same l0 HO.out K HKK.out, HPB.out])).mono ?_
    rintro e w9 ⟨rfl, hb⟩
    have B89 : Aside0 (Below w8.heap.size w8 w9) := ⟨(by first | exact hb | exact Drawn0.below hb)⟩
    have B49 := Aside0.mk (below_step B48.out B89.out)
    have HB9 := Aside0.mk (below_step HB8.out B89.out)
    clear hb
    go_wp2_with fail
    refine (refProper_calls A0 c0 l0 w9 (Kd.C_below HR.out HB9.out) HC.out HO.out).mono ?_
    rintro e w10 ⟨rfl, hb⟩
    rw [HPB.out]
    have B410 := Aside0.mk (below_step B49.out hb)
    have HB10 := Aside0.mk (below_step HB9.out hb)
    clear hb
    obtain ⟨nn, hnn⟩ : ∃ n, atP l0 l0.length = n := ⟨_, rfl⟩
    have HNN := Aside0.mk hnn
    clear hnn
    go_wp2_with fail
    refine (blocks_Len.calls AI cI l0 nn w10 (Kd.C_below (Kd.S_reads' HIN.out).2.2 (below_step BI4.out B410.out)) (Kd.S_reads' HIN.out).2.1 (by unfold blocks_Len.f; rw [if_pos (by have := HL.out; omega), HNN.out])).mono ?_
    rintro e w11 ⟨rfl, hb⟩
    have B411 := Aside0.mk (below_step B410.out hb)
    have HB11 := Aside0.mk (below_step HB10.out hb)
    clear hb
    go_wp2_with fail
    refine (refLen_calls A0 c0 l0 w11 (Kd.C_below HR.out HB11.out) HC.out (by have := HL.out; omega)).mono ?_
    rintro e w12 ⟨rfl, hb⟩
    rw [HNN.out]
    have B412 := Aside0.mk (below_step B411.out hb)
    have HB12 := Aside0.mk (below_step HB11.out hb)
    clear hb
    obtain ⟨set, ok, ha, hs30, hd⟩ := at_same l0 HO.out i0 HIJ.out.1.1 HIJ.out.1.2
    have HAT := Aside0.mk ha
    have HS30 := Aside0.mk hs30
    have HD := Aside0.mk hd
    clear ha hs30 hd
    go_wp2_with fail
    refine (blocks_At.calls AI cI l0 i0 set ok w12 (Kd.C_below (Kd.S_reads' HIN.out).2.2 (below_step BI4.out B412.out)) (Kd.S_reads' HIN.out).2.1 HAT.out).mono ?_
    rintro e w13 ⟨v13, rfl, hR, hb⟩
    obtain ⟨AS, cS, rfl⟩ := Kd.R_slice hR
    have HSET := Aside0.mk hR
    have B1213 := Aside0.mk hb
    have HB13 := Aside0.mk (below_step HB12.out hb)
    clear hR hb
    clear B45 B46 B47 B48 B49 B410 B411 B67 B78 B89 HX5 HX6 HY6 HB2 HB3 HB4 HB5 HB6 HB7 HB8 HB9 HB10 HB11
    go_wp2_with fail
    refine (refCut_calls A0 c0 l0 i0 (wrap64 (i0 + 1)) w13 (Kd.C_below HR.out HB13.out) HC.out HO.out).mono ?_
    rintro e w14 ⟨v14, rfl, hS, hb⟩
    have HONE := Aside0.mk hS
    have B1314 := Aside0.mk hb
    have HB14 := Aside0.mk (below_step HB13.out hb)
    clear hS hb
    rcases HD.out with ⟨rfl, hne, b, hone, hkey⟩ | ⟨rfl, hset, hone⟩
    · rw [hone] at HONE
      have hneb : (i0 == 9223372036854775807) = false := beq_eq_false_iff_ne.2 hne
      have HKEY := Aside0.mk hkey
      clear hone hkey hne
      obtain ⟨g1, cO, rfl, _, _, _⟩ := Kd.S_form HONE.out (by simp)
      obtain ⟨ad, A1, c1, eA, _, e1, l1, f1⟩ := at_T34 (Kd.S_reads' HONE.out).2.2 0 (by omega) (by simp)
      cases eA
      replace e1 : w14.cell? ⟨g1, 1, none⟩ = some (.slice A1 b.f1.length c1) := e1
      replace l1 : b.f1.length ≤ c1 := l1
      replace f1 : k46.C w14 A1 b.f1.length b.f1 := f1
      have LF := Aside0.mk (And.intro l1 f1)
      clear l1 f1
      go_wp2_with fail
      refine (rubricref05_Same.calls 3000 AS cS set A1 c1 b.f1 true w14 (Kd.C_below (Kd.R_reads' HSET.out).2.2 B1314.out) (Kd.R_reads' HSET.out).2.1 LF.out.2 LF.out.1 (by rw [sameR_eq 3000 _ _ (by have := HS30.out; omega) (by have := HS30.out; omega), decide_eq_true HKEY.out])).mono ?_
      rintro e WZ ⟨rfl, hb⟩
      have BZ : Aside0 (Below w13.heap.size w13 WZ) := ⟨below_step B1314.out (by first | exact hb | exact Drawn0.below hb)⟩
      have HBZ : Aside0 (Below w.heap.size w WZ) := ⟨below_step HB14.out (by first | exact hb | exact Drawn0.below hb)⟩
      clear hb e1 LF HKEY HONE
      go_wp2_with fail
      have hs23 : w2.heap.size ≤ w3.heap.size := B3.out.size
      have hs212 : w2.heap.size ≤ w12.heap.size := by have h1 := B4.out.size; have h2 := B412.out.size; omega
      have B4Z := Aside0.mk (below_step (below_step B412.out B1213.out) BZ.out)
      have B2Z := Aside0.mk (below_step B4.out B4Z.out)
      have HAZ := Aside0.mk (Kd.S_below HA4.out B4Z.out)
      have HBBZ := Aside0.mk (Kd.S_lower (Kd.S_below HBB4.out B4Z.out) hs23)
      obtain ⟨NA, hNA⟩ : ∃ n, w2.heap.size = n := ⟨_, rfl⟩
      have HSZ := Aside0.mk (Kd.R_mono (ok' := fun k => NA ≤ k) (Kd.R_bound (Kd.R_below HSET.out BZ.out)) (fun k hk => by have := hk.2.1; omega))
      rw [hNA] at HAZ HBBZ
      have HNA := Aside0.mk hNA
      have HNAW : Aside0 (w.heap.size ≤ NA) := ⟨by rw [← hNA]; have h1 := HB1.out.size; have h2 := HIN.out; exact HW2.out⟩
      clear hs23 hs212 hNA HA3 HA4 HBB4 HSET B4 B34 B412 B1213 B1314 BZ B3 B4Z
      obtain ⟨ASb, cSb, hv, _, hrp⟩ := row46 HSZ.out
      injection hv with e1_ _ e3_
      subst e1_
      subst e3_
      have RPS := Aside0.mk hrp
      clear hrp
      have HSK : Aside0 (SKP (fun k => NA ≤ k) WZ WZ) := ⟨SKP.refl _ _⟩
      go_loopw [113] (fun t wr => ∃ j : Nat, j ≤ set.length ∧ t = .int .i64 j ∧ Aside0 (SKP (fun k => NA ≤ k) WZ wr)) (fun t _ => set.length - (intOf t).toNat)
      case atStart => exact ⟨0, Nat.zero_le _, rfl, HSK⟩
      case round =>
        clear HSK
        obtain ⟨j, hj, rfl, HSK⟩ := hrel
        by_cases hlt : j < set.length
        · obtain ⟨gi, hgi, hgb, hcj⟩ := RPS.out (by omega)
          obtain ⟨y0, hx, hf⟩ := hcj j hlt
          have hf2 := (HSK.out.frozen _).trans hf
          obtain ⟨y, hy⟩ := HSK.out.int _ _ _ hx
          subst hgi
          have hji : (j : Int) < (set.length : Int) := by omega
          have q1 : (0 : Int) ≤ (j : Int) := Int.natCast_nonneg j
          have hb30 : set.length ≤ 30 := HS30.out
          have HX1 := Aside0.mk hy
          have HGB := Aside0.mk hgb
          clear hx hf hcj hgb
          go_wp2_with fail
          go_roundw
          case rel => exact ⟨j + 1, by omega, by go_num, ⟨SKP.put HSK.out HGB.out HX1.out _⟩⟩
          case measure => simp [intOf]; omega
        · obtain rfl : j = set.length := by omega
          go_wp2_with fail
          go_loopw [124] (fun t wr => ∃ z : Int, (z = 0 ∨ z = 1 ∨ z = 2) ∧ t = .int .i64 z ∧ Aside0 (SKP (fun k => NA ≤ k) WZ wr)) (fun t _ => 2 - (intOf t).toNat)
          case atStart => exact ⟨0, .inl rfl, rfl, HSK⟩
          case round =>
            clear HSK
            obtain ⟨z, hz, rfl, HSK⟩ := hrel
            rcases hz with rfl | rfl | rfl
            · obtain ⟨LM, hLM⟩ : ∃ L, L = LA := ⟨_, rfl⟩
              have HM : Aside0 (Kd.S k34 34 WZ NA (fun _ => True) (.slice AA LM.length cA) LM) := ⟨by rw [hLM]; exact HAZ.out⟩
              have HM30 : Aside0 (∀ b ∈ LM, b.f1.length ≤ 30) := ⟨by rw [hLM]; exact HJO.out.t⟩
              have HML : Aside0 (LM.length ≤ 1000) := ⟨by rw [hLM]; exact HJO.out.n⟩
              rw [← hLM]
              clear hLM
              have hix := arr_at0 AA AB LM.length cA LB.length cB
              go_wp2_with fail
              clear hix
              go_loopw [129] (fun t wr => ∃ i : Nat, i ≤ LM.length ∧ t = .int .i64 i ∧ Aside0 (SKP (fun k => NA ≤ k) WZ wr)) (fun t _ => LM.length - (intOf t).toNat)
              case atStart => exact ⟨0, Nat.zero_le _, rfl, HSK⟩
              case round =>
                clear HSK
                obtain ⟨i, hi, rfl, HSK⟩ := hrel
                by_cases hlt : i < LM.length
                · obtain ⟨g, capM, hv, hgb, _⟩ := Kd.S_form HM.out (by omega)
                  injection hv with e1_ _ e3_
                  subst e1_
                  subst e3_
                  obtain ⟨o, AR, cR, ho, lR, n0, z0, f1, rp⟩ := blk_row HM.out i hlt
                  have ho30 : o.f1.length ≤ 30 := HM30.out o (List.mem_of_getElem? ho)
                  have N0 := Aside0.mk n0
                  have Z0 := Aside0.mk z0
                  have F1 := Aside0.mk f1
                  have RP := Aside0.mk rp
                  have GB := Aside0.mk hgb
                  have hii : (i : Int) < (LM.length : Int) := by omega
                  have qi : (0 : Int) ≤ (i : Int) := Int.natCast_nonneg i
                  have hlm : LM.length ≤ 1000 := HML.out
                  clear n0 z0 f1 rp hgb ho
                  generalize o.f1.length = n1 at F1 RP lR ho30
                  have f1 := HSK.out.rest _ _ F1.out (fun _ _ h => by cases h)
                  go_wp2_with fail
                  go_loopw [138] (fun t wr => ∃ j : Nat, j ≤ n1 ∧ t = .int .i64 j ∧ Aside0 (SKP (fun k => NA ≤ k) WZ wr)) (fun t _ => n1 - (intOf t).toNat)
                  case atStart => exact ⟨0, Nat.zero_le _, rfl, HSK⟩
                  case round =>
                    clear HSK f1
                    obtain ⟨j, hj, rfl, HSK⟩ := hrel
                    by_cases hlt : j < n1
                    · obtain ⟨gi, hgi, hgb, hcj⟩ := RP.out (by omega)
                      obtain ⟨y0, hx, hf⟩ := hcj j hlt
                      have hf2 := (HSK.out.frozen _).trans hf
                      obtain ⟨y, hy⟩ := HSK.out.int _ _ _ hx
                      have f1 := HSK.out.rest _ _ F1.out (fun _ _ h => by cases h)
                      rw [hgi] at f1
                      have hji : (j : Int) < (n1 : Int) := by omega
                      have q1 : (0 : Int) ≤ (j : Int) := Int.natCast_nonneg j
                      have HX1 := Aside0.mk hy
                      have HGB := Aside0.mk hgb
                      clear hx hf hcj hgb hgi
                      go_wp2_with fail
                      go_roundw
                      case rel => exact ⟨j + 1, by omega, by go_num, ⟨SKP.put HSK.out HGB.out HX1.out _⟩⟩
                      case measure => simp [intOf]; omega
                    · obtain rfl : j = n1 := by omega
                      obtain ⟨y1, hy1⟩ := HSK.out.int _ _ _ N0.out
                      have hf1 := (HSK.out.frozen _).trans Z0.out
                      have HY1 := Aside0.mk hy1
                      go_wp2_with fail
                      go_roundw
                      case rel => exact ⟨i + 1, by omega, by go_num, ⟨SKP.put HSK.out GB.out HY1.out _⟩⟩
                      case measure => simp [intOf]; omega
                · obtain rfl : i = LM.length := by omega
                  go_wp2_with fail
                  go_roundw
                  case rel => exact ⟨1, .inr (.inl rfl), rfl, HSK⟩
                  case measure => simp [intOf]
            · obtain ⟨LM, hLM⟩ : ∃ L, L = LB := ⟨_, rfl⟩
              have HM : Aside0 (Kd.S k34 34 WZ NA (fun _ => True) (.slice AB LM.length cB) LM) := ⟨by rw [hLM]; exact HBBZ.out⟩
              have HM30 : Aside0 (∀ b ∈ LM, b.f1.length ≤ 30) := ⟨by rw [hLM]; exact HCO.out.2⟩
              have HML : Aside0 (LM.length ≤ 1000) := ⟨by rw [hLM]; exact HCO.out.1⟩
              rw [← hLM]
              clear hLM
              have hix := arr_at1 AA AB LA.length cA LM.length cB
              go_wp2_with fail
              clear hix
              go_loopw [129] (fun t wr => ∃ i : Nat, i ≤ LM.length ∧ t = .int .i64 i ∧ Aside0 (SKP (fun k => NA ≤ k) WZ wr)) (fun t _ => LM.length - (intOf t).toNat)
              case atStart => exact ⟨0, Nat.zero_le _, rfl, HSK⟩
              case round =>
                clear HSK
                obtain ⟨i, hi, rfl, HSK⟩ := hrel
                by_cases hlt : i < LM.length
                · obtain ⟨g, capM, hv, hgb, _⟩ := Kd.S_form HM.out (by omega)
                  injection hv with e1_ _ e3_
                  subst e1_
                  subst e3_
                  obtain ⟨o, AR, cR, ho, lR, n0, z0, f1, rp⟩ := blk_row HM.out i hlt
                  have ho30 : o.f1.length ≤ 30 := HM30.out o (List.mem_of_getElem? ho)
                  have N0 := Aside0.mk n0
                  have Z0 := Aside0.mk z0
                  have F1 := Aside0.mk f1
                  have RP := Aside0.mk rp
                  have GB := Aside0.mk hgb
                  have hii : (i : Int) < (LM.length : Int) := by omega
                  have qi : (0 : Int) ≤ (i : Int) := Int.natCast_nonneg i
                  have hlm : LM.length ≤ 1000 := HML.out
                  clear n0 z0 f1 rp hgb ho
                  generalize o.f1.length = n1 at F1 RP lR ho30
                  have f1 := HSK.out.rest _ _ F1.out (fun _ _ h => by cases h)
                  go_wp2_with fail
                  go_loopw [138] (fun t wr => ∃ j : Nat, j ≤ n1 ∧ t = .int .i64 j ∧ Aside0 (SKP (fun k => NA ≤ k) WZ wr)) (fun t _ => n1 - (intOf t).toNat)
                  case atStart => exact ⟨0, Nat.zero_le _, rfl, HSK⟩
                  case round =>
                    clear HSK f1
                    obtain ⟨j, hj, rfl, HSK⟩ := hrel
                    by_cases hlt : j < n1
                    · obtain ⟨gi, hgi, hgb, hcj⟩ := RP.out (by omega)
                      obtain ⟨y0, hx, hf⟩ := hcj j hlt
                      have hf2 := (HSK.out.frozen _).trans hf
                      obtain ⟨y, hy⟩ := HSK.out.int _ _ _ hx
                      have f1 := HSK.out.rest _ _ F1.out (fun _ _ h => by cases h)
                      rw [hgi] at f1
                      have hji : (j : Int) < (n1 : Int) := by omega
                      have q1 : (0 : Int) ≤ (j : Int) := Int.natCast_nonneg j
                      have HX1 := Aside0.mk hy
                      have HGB := Aside0.mk hgb
                      clear hx hf hcj hgb hgi
                      go_wp2_with fail
                      go_roundw
                      case rel => exact ⟨j + 1, by omega, by go_num, ⟨SKP.put HSK.out HGB.out HX1.out _⟩⟩
                      case measure => simp [intOf]; omega
                    · obtain rfl : j = n1 := by omega
                      obtain ⟨y1, hy1⟩ := HSK.out.int _ _ _ N0.out
                      have hf1 := (HSK.out.frozen _).trans Z0.out
                      have HY1 := Aside0.mk hy1
                      go_wp2_with fail
                      go_roundw
                      case rel => exact ⟨i + 1, by omega, by go_num, ⟨SKP.put HSK.out GB.out HY1.out _⟩⟩
                      case measure => simp [intOf]; omega
                · obtain rfl : i = LM.length := by omega
                  go_wp2_with fail
                  go_roundw
                  case rel => exact ⟨2, .inr (.inr rfl), rfl, HSK⟩
                  case measure => simp [intOf]
            · have BF : Aside0 (Below w2.heap.size w2 _) := ⟨B2Z.out.trans (HSK.out.up (fun k hk => by rw [HNA.out]; exact hk))⟩
              have HBF : Aside0 (Below w.heap.size w _) := ⟨HBZ.out.trans (HSK.out.up (fun k hk => Nat.le_trans HNAW.out hk))⟩
              go_wp2_with fail
              refine (rubricref12_Same.calls 3000 AI cI l0 A0 c0 l0 true _ (Kd.C_below (Kd.S_reads' HIN.out).2.2 BF.out) (Kd.S_reads' HIN.out).2.1 (Kd.C_below HR.out HBF.out) HC.out (by rw [sameB_eq l0 l0 (by have := HO.out.n; omega) HO.out.t 3000 (by have := HO.out.n; omega), same34_self])).mono ?_
              rintro e wS ⟨rfl, hb⟩
              have HBS : Aside0 (Below w.heap.size w wS) := ⟨below_step HBF.out (by first | exact hb | exact Drawn0.below hb)⟩
              clear hb
              go_wp2_with fail
              refine (rubriclaw12_known.calls true wS rfl).mono ?_
              rintro e wK ⟨rfl, hb⟩
              have HBK := Aside0.mk (below_step HBS.out hb)
              clear hb
              go_wp2_with fail
              go_ret
              exact ⟨rfl, HBK.out⟩
    · have hs0 : ((set.length : Int) != 0) = false := by rw [hset]; rfl
      clear hset
      by_cases hm : i0 = 9223372036854775807
      · have hneb : (i0 == 9223372036854775807) = true := beq_iff_eq.2 hm
        obtain ⟨AO, cO, rfl⟩ := Kd.S_slice HONE.out
        generalize (refCutP l0 i0 (wrap64 (i0 + 1))).length = n0
        clear hone hm HONE
        have BZ := B1314
        have HBZ := HB14
        obtain ⟨WZ, hWZ⟩ : ∃ W : World, W = w14 := ⟨_, rfl⟩
        subst hWZ
        go_wp2_with fail
        have hs23 : w2.heap.size ≤ w3.heap.size := B3.out.size
        have hs212 : w2.heap.size ≤ w12.heap.size := by have h1 := B4.out.size; have h2 := B412.out.size; omega
        have B4Z := Aside0.mk (below_step (below_step B412.out B1213.out) BZ.out)
        have B2Z := Aside0.mk (below_step B4.out B4Z.out)
        have HAZ := Aside0.mk (Kd.S_below HA4.out B4Z.out)
        have HBBZ := Aside0.mk (Kd.S_lower (Kd.S_below HBB4.out B4Z.out) hs23)
        obtain ⟨NA, hNA⟩ : ∃ n, w2.heap.size = n := ⟨_, rfl⟩
        have HSZ := Aside0.mk (Kd.R_mono (ok' := fun k => NA ≤ k) (Kd.R_bound (Kd.R_below HSET.out BZ.out)) (fun k hk => by have := hk.2.1; omega))
        rw [hNA] at HAZ HBBZ
        have HNA := Aside0.mk hNA
        have HNAW : Aside0 (w.heap.size ≤ NA) := ⟨by rw [← hNA]; have h1 := HB1.out.size; have h2 := HIN.out; exact HW2.out⟩
        clear hs23 hs212 hNA HA3 HA4 HBB4 HSET B4 B34 B412 B1213 B1314 BZ B3 B4Z
        obtain ⟨ASb, cSb, hv, _, hrp⟩ := row46 HSZ.out
        injection hv with e1_ _ e3_
        subst e1_
        subst e3_
        have RPS := Aside0.mk hrp
        clear hrp
        have HSK : Aside0 (SKP (fun k => NA ≤ k) WZ WZ) := ⟨SKP.refl _ _⟩
        go_loopw [113] (fun t wr => ∃ j : Nat, j ≤ set.length ∧ t = .int .i64 j ∧ Aside0 (SKP (fun k => NA ≤ k) WZ wr)) (fun t _ => set.length - (intOf t).toNat)
        case atStart => exact ⟨0, Nat.zero_le _, rfl, HSK⟩
        case round =>
          clear HSK
          obtain ⟨j, hj, rfl, HSK⟩ := hrel
          by_cases hlt : j < set.length
          · obtain ⟨gi, hgi, hgb, hcj⟩ := RPS.out (by omega)
            obtain ⟨y0, hx, hf⟩ := hcj j hlt
            have hf2 := (HSK.out.frozen _).trans hf
            obtain ⟨y, hy⟩ := HSK.out.int _ _ _ hx
            subst hgi
            have hji : (j : Int) < (set.length : Int) := by omega
            have q1 : (0 : Int) ≤ (j : Int) := Int.natCast_nonneg j
            have hb30 : set.length ≤ 30 := HS30.out
            have HX1 := Aside0.mk hy
            have HGB := Aside0.mk hgb
            clear hx hf hcj hgb
            go_wp2_with fail
            go_roundw
            case rel => exact ⟨j + 1, by omega, by go_num, ⟨SKP.put HSK.out HGB.out HX1.out _⟩⟩
            case measure => simp [intOf]; omega
          · obtain rfl : j = set.length := by omega
            go_wp2_with fail
            go_loopw [124] (fun t wr => ∃ z : Int, (z = 0 ∨ z = 1 ∨ z = 2) ∧ t = .int .i64 z ∧ Aside0 (SKP (fun k => NA ≤ k) WZ wr)) (fun t _ => 2 - (intOf t).toNat)
            case atStart => exact ⟨0, .inl rfl, rfl, HSK⟩
            case round =>
              clear HSK
              obtain ⟨z, hz, rfl, HSK⟩ := hrel
              rcases hz with rfl | rfl | rfl
              · obtain ⟨LM, hLM⟩ : ∃ L, L = LA := ⟨_, rfl⟩
                have HM : Aside0 (Kd.S k34 34 WZ NA (fun _ => True) (.slice AA LM.length cA) LM) := ⟨by rw [hLM]; exact HAZ.out⟩
                have HM30 : Aside0 (∀ b ∈ LM, b.f1.length ≤ 30) := ⟨by rw [hLM]; exact HJO.out.t⟩
                have HML : Aside0 (LM.length ≤ 1000) := ⟨by rw [hLM]; exact HJO.out.n⟩
                rw [← hLM]
                clear hLM
                have hix := arr_at0 AA AB LM.length cA LB.length cB
                go_wp2_with fail
                clear hix
                go_loopw [129] (fun t wr => ∃ i : Nat, i ≤ LM.length ∧ t = .int .i64 i ∧ Aside0 (SKP (fun k => NA ≤ k) WZ wr)) (fun t _ => LM.length - (intOf t).toNat)
                case atStart => exact ⟨0, Nat.zero_le _, rfl, HSK⟩
                case round =>
                  clear HSK
                  obtain ⟨i, hi, rfl, HSK⟩ := hrel
                  by_cases hlt : i < LM.length
                  · obtain ⟨g, capM, hv, hgb, _⟩ := Kd.S_form HM.out (by omega)
                    injection hv with e1_ _ e3_
                    subst e1_
                    subst e3_
                    obtain ⟨o, AR, cR, ho, lR, n0, z0, f1, rp⟩ := blk_row HM.out i hlt
                    have ho30 : o.f1.length ≤ 30 := HM30.out o (List.mem_of_getElem? ho)
                    have N0 := Aside0.mk n0
                    have Z0 := Aside0.mk z0
                    have F1 := Aside0.mk f1
                    have RP := Aside0.mk rp
                    have GB := Aside0.mk hgb
                    have hii : (i : Int) < (LM.length : Int) := by omega
                    have qi : (0 : Int) ≤ (i : Int) := Int.natCast_nonneg i
                    have hlm : LM.length ≤ 1000 := HML.out
                    clear n0 z0 f1 rp hgb ho
                    generalize o.f1.length = n1 at F1 RP lR ho30
                    have f1 := HSK.out.rest _ _ F1.out (fun _ _ h => by cases h)
                    go_wp2_with fail
                    go_loopw [138] (fun t wr => ∃ j : Nat, j ≤ n1 ∧ t = .int .i64 j ∧ Aside0 (SKP (fun k => NA ≤ k) WZ wr)) (fun t _ => n1 - (intOf t).toNat)
                    case atStart => exact ⟨0, Nat.zero_le _, rfl, HSK⟩
                    case round =>
                      clear HSK f1
                      obtain ⟨j, hj, rfl, HSK⟩ := hrel
                      by_cases hlt : j < n1
                      · obtain ⟨gi, hgi, hgb, hcj⟩ := RP.out (by omega)
                        obtain ⟨y0, hx, hf⟩ := hcj j hlt
                        have hf2 := (HSK.out.frozen _).trans hf
                        obtain ⟨y, hy⟩ := HSK.out.int _ _ _ hx
                        have f1 := HSK.out.rest _ _ F1.out (fun _ _ h => by cases h)
                        rw [hgi] at f1
                        have hji : (j : Int) < (n1 : Int) := by omega
                        have q1 : (0 : Int) ≤ (j : Int) := Int.natCast_nonneg j
                        have HX1 := Aside0.mk hy
                        have HGB := Aside0.mk hgb
                        clear hx hf hcj hgb hgi
                        go_wp2_with fail
                        go_roundw
                        case rel => exact ⟨j + 1, by omega, by go_num, ⟨SKP.put HSK.out HGB.out HX1.out _⟩⟩
                        case measure => simp [intOf]; omega
                      · obtain rfl : j = n1 := by omega
                        obtain ⟨y1, hy1⟩ := HSK.out.int _ _ _ N0.out
                        have hf1 := (HSK.out.frozen _).trans Z0.out
                        have HY1 := Aside0.mk hy1
                        go_wp2_with fail
                        go_roundw
                        case rel => exact ⟨i + 1, by omega, by go_num, ⟨SKP.put HSK.out GB.out HY1.out _⟩⟩
                        case measure => simp [intOf]; omega
                  · obtain rfl : i = LM.length := by omega
                    go_wp2_with fail
                    go_roundw
                    case rel => exact ⟨1, .inr (.inl rfl), rfl, HSK⟩
                    case measure => simp [intOf]
              · obtain ⟨LM, hLM⟩ : ∃ L, L = LB := ⟨_, rfl⟩
                have HM : Aside0 (Kd.S k34 34 WZ NA (fun _ => True) (.slice AB LM.length cB) LM) := ⟨by rw [hLM]; exact HBBZ.out⟩
                have HM30 : Aside0 (∀ b ∈ LM, b.f1.length ≤ 30) := ⟨by rw [hLM]; exact HCO.out.2⟩
                have HML : Aside0 (LM.length ≤ 1000) := ⟨by rw [hLM]; exact HCO.out.1⟩
                rw [← hLM]
                clear hLM
                have hix := arr_at1 AA AB LA.length cA LM.length cB
                go_wp2_with fail
                clear hix
                go_loopw [129] (fun t wr => ∃ i : Nat, i ≤ LM.length ∧ t = .int .i64 i ∧ Aside0 (SKP (fun k => NA ≤ k) WZ wr)) (fun t _ => LM.length - (intOf t).toNat)
                case atStart => exact ⟨0, Nat.zero_le _, rfl, HSK⟩
                case round =>
                  clear HSK
                  obtain ⟨i, hi, rfl, HSK⟩ := hrel
                  by_cases hlt : i < LM.length
                  · obtain ⟨g, capM, hv, hgb, _⟩ := Kd.S_form HM.out (by omega)
                    injection hv with e1_ _ e3_
                    subst e1_
                    subst e3_
                    obtain ⟨o, AR, cR, ho, lR, n0, z0, f1, rp⟩ := blk_row HM.out i hlt
                    have ho30 : o.f1.length ≤ 30 := HM30.out o (List.mem_of_getElem? ho)
                    have N0 := Aside0.mk n0
                    have Z0 := Aside0.mk z0
                    have F1 := Aside0.mk f1
                    have RP := Aside0.mk rp
                    have GB := Aside0.mk hgb
                    have hii : (i : Int) < (LM.length : Int) := by omega
                    have qi : (0 : Int) ≤ (i : Int) := Int.natCast_nonneg i
                    have hlm : LM.length ≤ 1000 := HML.out
                    clear n0 z0 f1 rp hgb ho
                    generalize o.f1.length = n1 at F1 RP lR ho30
                    have f1 := HSK.out.rest _ _ F1.out (fun _ _ h => by cases h)
                    go_wp2_with fail
                    go_loopw [138] (fun t wr => ∃ j : Nat, j ≤ n1 ∧ t = .int .i64 j ∧ Aside0 (SKP (fun k => NA ≤ k) WZ wr)) (fun t _ => n1 - (intOf t).toNat)
                    case atStart => exact ⟨0, Nat.zero_le _, rfl, HSK⟩
                    case round =>
                      clear HSK f1
                      obtain ⟨j, hj, rfl, HSK⟩ := hrel
                      by_cases hlt : j < n1
                      · obtain ⟨gi, hgi, hgb, hcj⟩ := RP.out (by omega)
                        obtain ⟨y0, hx, hf⟩ := hcj j hlt
                        have hf2 := (HSK.out.frozen _).trans hf
                        obtain ⟨y, hy⟩ := HSK.out.int _ _ _ hx
                        have f1 := HSK.out.rest _ _ F1.out (fun _ _ h => by cases h)
                        rw [hgi] at f1
                        have hji : (j : Int) < (n1 : Int) := by omega
                        have q1 : (0 : Int) ≤ (j : Int) := Int.natCast_nonneg j
                        have HX1 := Aside0.mk hy
                        have HGB := Aside0.mk hgb
                        clear hx hf hcj hgb hgi
                        go_wp2_with fail
                        go_roundw
                        case rel => exact ⟨j + 1, by omega, by go_num, ⟨SKP.put HSK.out HGB.out HX1.out _⟩⟩
                        case measure => simp [intOf]; omega
                      · obtain rfl : j = n1 := by omega
                        obtain ⟨y1, hy1⟩ := HSK.out.int _ _ _ N0.out
                        have hf1 := (HSK.out.frozen _).trans Z0.out
                        have HY1 := Aside0.mk hy1
                        go_wp2_with fail
                        go_roundw
                        case rel => exact ⟨i + 1, by omega, by go_num, ⟨SKP.put HSK.out GB.out HY1.out _⟩⟩
                        case measure => simp [intOf]; omega
                  · obtain rfl : i = LM.length := by omega
                    go_wp2_with fail
                    go_roundw
                    case rel => exact ⟨2, .inr (.inr rfl), rfl, HSK⟩
                    case measure => simp [intOf]
              · have BF : Aside0 (Below w2.heap.size w2 _) := ⟨B2Z.out.trans (HSK.out.up (fun k hk => by rw [HNA.out]; exact hk))⟩
                have HBF : Aside0 (Below w.heap.size w _) := ⟨HBZ.out.trans (HSK.out.up (fun k hk => Nat.le_trans HNAW.out hk))⟩
                go_wp2_with fail
                refine (rubricref12_Same.calls 3000 AI cI l0 A0 c0 l0 true _ (Kd.C_below (Kd.S_reads' HIN.out).2.2 BF.out) (Kd.S_reads' HIN.out).2.1 (Kd.C_below HR.out HBF.out) HC.out (by rw [sameB_eq l0 l0 (by have := HO.out.n; omega) HO.out.t 3000 (by have := HO.out.n; omega), same34_self])).mono ?_
                rintro e wS ⟨rfl, hb⟩
                have HBS : Aside0 (Below w.heap.size w wS) := ⟨below_step HBF.out (by first | exact hb | exact Drawn0.below hb)⟩
                clear hb
                go_wp2_with fail
                refine (rubriclaw12_known.calls true wS rfl).mono ?_
                rintro e wK ⟨rfl, hb⟩
                have HBK := Aside0.mk (below_step HBS.out hb)
                clear hb
                go_wp2_with fail
                go_ret
                exact ⟨rfl, HBK.out⟩
      · have hneb : (i0 == 9223372036854775807) = false := beq_eq_false_iff_ne.2 hm
        rw [hone hm] at HONE
        obtain ⟨AO, cO, rfl⟩ := Kd.S_slice HONE.out
        clear hone hm HONE
        have BZ := B1314
        have HBZ := HB14
        obtain ⟨WZ, hWZ⟩ : ∃ W : World, W = w14 := ⟨_, rfl⟩
        subst hWZ
        go_wp2_with fail
        have hs23 : w2.heap.size ≤ w3.heap.size := B3.out.size
        have hs212 : w2.heap.size ≤ w12.heap.size := by have h1 := B4.out.size; have h2 := B412.out.size; omega
        have B4Z := Aside0.mk (below_step (below_step B412.out B1213.out) BZ.out)
        have B2Z := Aside0.mk (below_step B4.out B4Z.out)
        have HAZ := Aside0.mk (Kd.S_below HA4.out B4Z.out)
        have HBBZ := Aside0.mk (Kd.S_lower (Kd.S_below HBB4.out B4Z.out) hs23)
        obtain ⟨NA, hNA⟩ : ∃ n, w2.heap.size = n := ⟨_, rfl⟩
        have HSZ := Aside0.mk (Kd.R_mono (ok' := fun k => NA ≤ k) (Kd.R_bound (Kd.R_below HSET.out BZ.out)) (fun k hk => by have := hk.2.1; omega))
        rw [hNA] at HAZ HBBZ
        have HNA := Aside0.mk hNA
        have HNAW : Aside0 (w.heap.size ≤ NA) := ⟨by rw [← hNA]; have h1 := HB1.out.size; have h2 := HIN.out; exact HW2.out⟩
        clear hs23 hs212 hNA HA3 HA4 HBB4 HSET B4 B34 B412 B1213 B1314 BZ B3 B4Z
        obtain ⟨ASb, cSb, hv, _, hrp⟩ := row46 HSZ.out
        injection hv with e1_ _ e3_
        subst e1_
        subst e3_
        have RPS := Aside0.mk hrp
        clear hrp
        have HSK : Aside0 (SKP (fun k => NA ≤ k) WZ WZ) := ⟨SKP.refl _ _⟩
        go_loopw [113] (fun t wr => ∃ j : Nat, j ≤ set.length ∧ t = .int .i64 j ∧ Aside0 (SKP (fun k => NA ≤ k) WZ wr)) (fun t _ => set.length - (intOf t).toNat)
        case atStart => exact ⟨0, Nat.zero_le _, rfl, HSK⟩
        case round =>
          clear HSK
          obtain ⟨j, hj, rfl, HSK⟩ := hrel
          by_cases hlt : j < set.length
          · obtain ⟨gi, hgi, hgb, hcj⟩ := RPS.out (by omega)
            obtain ⟨y0, hx, hf⟩ := hcj j hlt
            have hf2 := (HSK.out.frozen _).trans hf
            obtain ⟨y, hy⟩ := HSK.out.int _ _ _ hx
            subst hgi
            have hji : (j : Int) < (set.length : Int) := by omega
            have q1 : (0 : Int) ≤ (j : Int) := Int.natCast_nonneg j
            have hb30 : set.length ≤ 30 := HS30.out
            have HX1 := Aside0.mk hy
            have HGB := Aside0.mk hgb
            clear hx hf hcj hgb
            go_wp2_with fail
            go_roundw
            case rel => exact ⟨j + 1, by omega, by go_num, ⟨SKP.put HSK.out HGB.out HX1.out _⟩⟩
            case measure => simp [intOf]; omega
          · obtain rfl : j = set.length := by omega
            go_wp2_with fail
            go_loopw [124] (fun t wr => ∃ z : Int, (z = 0 ∨ z = 1 ∨ z = 2) ∧ t = .int .i64 z ∧ Aside0 (SKP (fun k => NA ≤ k) WZ wr)) (fun t _ => 2 - (intOf t).toNat)
            case atStart => exact ⟨0, .inl rfl, rfl, HSK⟩
            case round =>
              clear HSK
              obtain ⟨z, hz, rfl, HSK⟩ := hrel
              rcases hz with rfl | rfl | rfl
              · obtain ⟨LM, hLM⟩ : ∃ L, L = LA := ⟨_, rfl⟩
                have HM : Aside0 (Kd.S k34 34 WZ NA (fun _ => True) (.slice AA LM.length cA) LM) := ⟨by rw [hLM]; exact HAZ.out⟩
                have HM30 : Aside0 (∀ b ∈ LM, b.f1.length ≤ 30) := ⟨by rw [hLM]; exact HJO.out.t⟩
                have HML : Aside0 (LM.length ≤ 1000) := ⟨by rw [hLM]; exact HJO.out.n⟩
                rw [← hLM]
                clear hLM
                have hix := arr_at0 AA AB LM.length cA LB.length cB
                go_wp2_with fail
                clear hix
                go_loopw [129] (fun t wr => ∃ i : Nat, i ≤ LM.length ∧ t = .int .i64 i ∧ Aside0 (SKP (fun k => NA ≤ k) WZ wr)) (fun t _ => LM.length - (intOf t).toNat)
                case atStart => exact ⟨0, Nat.zero_le _, rfl, HSK⟩
                case round =>
                  clear HSK
                  obtain ⟨i, hi, rfl, HSK⟩ := hrel
                  by_cases hlt : i < LM.length
                  · obtain ⟨g, capM, hv, hgb, _⟩ := Kd.S_form HM.out (by omega)
                    injection hv with e1_ _ e3_
                    subst e1_
                    subst e3_
                    obtain ⟨o, AR, cR, ho, lR, n0, z0, f1, rp⟩ := blk_row HM.out i hlt
                    have ho30 : o.f1.length ≤ 30 := HM30.out o (List.mem_of_getElem? ho)
                    have N0 := Aside0.mk n0
                    have Z0 := Aside0.mk z0
                    have F1 := Aside0.mk f1
                    have RP := Aside0.mk rp
                    have GB := Aside0.mk hgb
                    have hii : (i : Int) < (LM.length : Int) := by omega
                    have qi : (0 : Int) ≤ (i : Int) := Int.natCast_nonneg i
                    have hlm : LM.length ≤ 1000 := HML.out
                    clear n0 z0 f1 rp hgb ho
                    generalize o.f1.length = n1 at F1 RP lR ho30
                    have f1 := HSK.out.rest _ _ F1.out (fun _ _ h => by cases h)
                    go_wp2_with fail
                    go_loopw [138] (fun t wr => ∃ j : Nat, j ≤ n1 ∧ t = .int .i64 j ∧ Aside0 (SKP (fun k => NA ≤ k) WZ wr)) (fun t _ => n1 - (intOf t).toNat)
                    case atStart => exact ⟨0, Nat.zero_le _, rfl, HSK⟩
                    case round =>
                      clear HSK f1
                      obtain ⟨j, hj, rfl, HSK⟩ := hrel
                      by_cases hlt : j < n1
                      · obtain ⟨gi, hgi, hgb, hcj⟩ := RP.out (by omega)
                        obtain ⟨y0, hx, hf⟩ := hcj j hlt
                        have hf2 := (HSK.out.frozen _).trans hf
                        obtain ⟨y, hy⟩ := HSK.out.int _ _ _ hx
                        have f1 := HSK.out.rest _ _ F1.out (fun _ _ h => by cases h)
                        rw [hgi] at f1
                        have hji : (j : Int) < (n1 : Int) := by omega
                        have q1 : (0 : Int) ≤ (j : Int) := Int.natCast_nonneg j
                        have HX1 := Aside0.mk hy
                        have HGB := Aside0.mk hgb
                        clear hx hf hcj hgb hgi
                        go_wp2_with fail
                        go_roundw
                        case rel => exact ⟨j + 1, by omega, by go_num, ⟨SKP.put HSK.out HGB.out HX1.out _⟩⟩
                        case measure => simp [intOf]; omega
                      · obtain rfl : j = n1 := by omega
                        obtain ⟨y1, hy1⟩ := HSK.out.int _ _ _ N0.out
                        have hf1 := (HSK.out.frozen _).trans Z0.out
                        have HY1 := Aside0.mk hy1
                        go_wp2_with fail
                        go_roundw
                        case rel => exact ⟨i + 1, by omega, by go_num, ⟨SKP.put HSK.out GB.out HY1.out _⟩⟩
                        case measure => simp [intOf]; omega
                  · obtain rfl : i = LM.length := by omega
                    go_wp2_with fail
                    go_roundw
                    case rel => exact ⟨1, .inr (.inl rfl), rfl, HSK⟩
                    case measure => simp [intOf]
              · obtain ⟨LM, hLM⟩ : ∃ L, L = LB := ⟨_, rfl⟩
                have HM : Aside0 (Kd.S k34 34 WZ NA (fun _ => True) (.slice AB LM.length cB) LM) := ⟨by rw [hLM]; exact HBBZ.out⟩
                have HM30 : Aside0 (∀ b ∈ LM, b.f1.length ≤ 30) := ⟨by rw [hLM]; exact HCO.out.2⟩
                have HML : Aside0 (LM.length ≤ 1000) := ⟨by rw [hLM]; exact HCO.out.1⟩
                rw [← hLM]
                clear hLM
                have hix := arr_at1 AA AB LA.length cA LM.length cB
                go_wp2_with fail
                clear hix
                go_loopw [129] (fun t wr => ∃ i : Nat, i ≤ LM.length ∧ t = .int .i64 i ∧ Aside0 (SKP (fun k => NA ≤ k) WZ wr)) (fun t _ => LM.length - (intOf t).toNat)
                case atStart => exact ⟨0, Nat.zero_le _, rfl, HSK⟩
                case round =>
                  clear HSK
                  obtain ⟨i, hi, rfl, HSK⟩ := hrel
                  by_cases hlt : i < LM.length
                  · obtain ⟨g, capM, hv, hgb, _⟩ := Kd.S_form HM.out (by omega)
                    injection hv with e1_ _ e3_
                    subst e1_
                    subst e3_
                    obtain ⟨o, AR, cR, ho, lR, n0, z0, f1, rp⟩ := blk_row HM.out i hlt
                    have ho30 : o.f1.length ≤ 30 := HM30.out o (List.mem_of_getElem? ho)
                    have N0 := Aside0.mk n0
                    have Z0 := Aside0.mk z0
                    have F1 := Aside0.mk f1
                    have RP := Aside0.mk rp
                    have GB := Aside0.mk hgb
                    have hii : (i : Int) < (LM.length : Int) := by omega
                    have qi : (0 : Int) ≤ (i : Int) := Int.natCast_nonneg i
                    have hlm : LM.length ≤ 1000 := HML.out
                    clear n0 z0 f1 rp hgb ho
                    generalize o.f1.length = n1 at F1 RP lR ho30
                    have f1 := HSK.out.rest _ _ F1.out (fun _ _ h => by cases h)
                    go_wp2_with fail
                    go_loopw [138] (fun t wr => ∃ j : Nat, j ≤ n1 ∧ t = .int .i64 j ∧ Aside0 (SKP (fun k => NA ≤ k) WZ wr)) (fun t _ => n1 - (intOf t).toNat)
                    case atStart => exact ⟨0, Nat.zero_le _, rfl, HSK⟩
                    case round =>
                      clear HSK f1
                      obtain ⟨j, hj, rfl, HSK⟩ := hrel
                      by_cases hlt : j < n1
                      · obtain ⟨gi, hgi, hgb, hcj⟩ := RP.out (by omega)
                        obtain ⟨y0, hx, hf⟩ := hcj j hlt
                        have hf2 := (HSK.out.frozen _).trans hf
                        obtain ⟨y, hy⟩ := HSK.out.int _ _ _ hx
                        have f1 := HSK.out.rest _ _ F1.out (fun _ _ h => by cases h)
                        rw [hgi] at f1
                        have hji : (j : Int) < (n1 : Int) := by omega
                        have q1 : (0 : Int) ≤ (j : Int) := Int.natCast_nonneg j
                        have HX1 := Aside0.mk hy
                        have HGB := Aside0.mk hgb
                        clear hx hf hcj hgb hgi
                        go_wp2_with fail
                        go_roundw
                        case rel => exact ⟨j + 1, by omega, by go_num, ⟨SKP.put HSK.out HGB.out HX1.out _⟩⟩
                        case measure => simp [intOf]; omega
                      · obtain rfl : j = n1 := by omega
                        obtain ⟨y1, hy1⟩ := HSK.out.int _ _ _ N0.out
                        have hf1 := (HSK.out.frozen _).trans Z0.out
                        have HY1 := Aside0.mk hy1
                        go_wp2_with fail
                        go_roundw
                        case rel => exact ⟨i + 1, by omega, by go_num, ⟨SKP.put HSK.out GB.out HY1.out _⟩⟩
                        case measure => simp [intOf]; omega
                  · obtain rfl : i = LM.length := by omega
                    go_wp2_with fail
                    go_roundw
                    case rel => exact ⟨2, .inr (.inr rfl), rfl, HSK⟩
                    case measure => simp [intOf]
              · have BF : Aside0 (Below w2.heap.size w2 _) := ⟨B2Z.out.trans (HSK.out.up (fun k hk => by rw [HNA.out]; exact hk))⟩
                have HBF : Aside0 (Below w.heap.size w _) := ⟨HBZ.out.trans (HSK.out.up (fun k hk => Nat.le_trans HNAW.out hk))⟩
                go_wp2_with fail
                refine (rubricref12_Same.calls 3000 AI cI l0 A0 c0 l0 true _ (Kd.C_below (Kd.S_reads' HIN.out).2.2 BF.out) (Kd.S_reads' HIN.out).2.1 (Kd.C_below HR.out HBF.out) HC.out (by rw [sameB_eq l0 l0 (by have := HO.out.n; omega) HO.out.t 3000 (by have := HO.out.n; omega), same34_self])).mono ?_
                rintro e wS ⟨rfl, hb⟩
                have HBS : Aside0 (Below w.heap.size w wS) := ⟨below_step HBF.out (by first | exact hb | exact Drawn0.below hb)⟩
                clear hb
                go_wp2_with fail
                refine (rubriclaw12_known.calls true wS rfl).mono ?_
                rintro e wK ⟨rfl, hb⟩
                have HBK := Aside0.mk (below_step HBS.out hb)
                clear hb
                go_wp2_with fail
                go_ret
                exact ⟨rfl, HBK.out⟩
end Go.Proofs.Ytpnoeggnniagfaa.P
namespace Go.Proofs.Ytpnoeggnniagfaa.P
open Go.RowKit Go.ChangeShapes Go.WideShapes Go.Deep Go.Proofs.YtpnoeggnniagfaaW.PrintWords Go.Proofs.YtpnoeggnniagfaaW.PrintLast Go.Proofs.YtpnoeggnniagfaaW.PrintMore
set_option linter.unusedVariables false
section
variable {H : Type} {enc : TypeId × Value → H} {w : World} {base : Nat} {spare : Nat → Bool} {held : Bool}
theorem weights_mem_all {P : Program} {e : TypeId} : ∀ {ds : List (DataW H)} {d : DataW H}, d ∈ ds → ∀ n ∈ d.weights P e, n ∈ DataW.weightsAll P e ds
  | d0 :: ds, d, hd, n, hn => by
    simp only [DataW.weightsAll, List.mem_append]
    rcases List.mem_cons.1 hd with rfl | hd
    · exact .inl hn
    · exact .inr (weights_mem_all hd n hn)
def Opens (H : Type) (enc : TypeId × Value → H) (w : World) (base : Nat) (spare : Nat → Bool) (held : Bool) {α : Type} (t : TypeId) (d : Kd α) (Z : α → Prop) : Prop :=
  ∀ (fuel : Nat) (cs : List Value) (x : DataW H × List MemPlace), DataW.trod enc Try.prog w base spare held fuel t cs = some x → (∀ n ∈ x.1.weights Try.prog t, n ≤ reachBytes) → ∃ y : α, d.K w y cs ∧ Z y
theorem opens_int {t : TypeId} {k : IntKind} (ht : Try.prog.underlying t = some (.int k)) : Opens H enc w base spare held t (Kd.int k) (fun _ => True) := by
  intro fuel cs x h _
  obtain ⟨n, rfl, _, _⟩ := DataW.trod_int ht h
  exact ⟨n, rfl, trivial⟩
theorem opens_string {t : TypeId} (ht : Try.prog.underlying t = some .string) : Opens H enc w base spare held t Kd.string (fun _ => True) := by
  intro fuel cs x h _
  obtain ⟨s, rfl, rfl, _⟩ := DataW.trod_string ht h
  exact ⟨s, rfl, trivial⟩
theorem opens_slice {α : Type} [Inhabited α] {t e : TypeId} {d : Kd α} {Z : α → Prop} (ht : Try.prog.underlying t = some (.slice e)) (hsz : Try.prog.cellsOf e = d.sz) (he : Opens H enc w base spare held e d Z) : Opens H enc w base spare held t (Kd.slice e d) (fun l => l.length * Try.prog.bytesOf e ≤ reachBytes ∧ ∀ y ∈ l, Z y) := by
  intro fuel cs x h hz
  rcases open_slice ht h with ⟨rfl, _⟩ | ⟨a, len, cap, m, n, D, Pl, rfl, hb, hl, hm, hmm, hx, hi⟩
  · exact ⟨[], ⟨none, 0, rfl, by simp, Kd.C_nil _ _⟩, by simp, by simp⟩
  · have hlm : len ≤ m := by rw [hmm]; split <;> omega
    rw [hx] at hz
    simp only [DataW.weights, ht] at hz
    have hD : ∀ i, i < len → ∀ n ∈ (D i).weights Try.prog e, n ≤ reachBytes := fun i hil n hn => hz n (List.mem_cons_of_mem _ (List.mem_append_left _ (weights_mem_all (List.mem_map.2 ⟨i, List.mem_range.2 hil, rfl⟩) n hn)))
    have h1 : ∀ i : Nat, ∃ y : α × List Value, i < len → (d.K w y.1 y.2 ∧ y.2.length = d.sz ∧ ∀ j u, y.2[j]? = some u → w.cell? (a.add (i * d.sz + j)) = some u) ∧ Z y.1 := by
      intro i
      by_cases hil : i < len
      · obtain ⟨cs', hc, ht'⟩ := hi i (by omega)
        obtain ⟨y, hy, hyw⟩ := he _ _ _ ht' (hD i hil)
        obtain ⟨_, hcl, hat⟩ := World.cells?_some hc
        rw [hsz] at hcl hat
        refine ⟨(y, cs'), fun _ => ⟨⟨hy, hcl, fun j u hu => ?_⟩, hyw⟩⟩
        have hj : j < d.sz := by have := (List.getElem?_eq_some_iff.1 hu).1; dsimp only at this; omega
        rw [← Go.Deep.add_add, hat j hj]; exact hu
      · exact ⟨(default, []), fun hh => absurd hh hil⟩
    obtain ⟨f, hf⟩ := Classical.skolem.1 h1
    refine ⟨(List.range len).map fun i => (f i).1, ⟨some a, cap, by simp, by simpa using hl, by simp, ?_, fun hp => ⟨a, rfl, fun j p hj => ?_⟩⟩, ?_, ?_⟩
    · simp only [List.length_map, List.length_range]
      have : maxLen ≤ 9223372036854775807 := by decide
      omega
    · rw [List.getElem?_map] at hj
      obtain ⟨j', hj', rfl⟩ := Option.map_eq_some_iff.1 hj
      obtain ⟨hlt, he'⟩ := List.getElem?_eq_some_iff.1 hj'
      rw [List.getElem_range] at he'
      subst he'
      rw [List.length_range] at hlt
      obtain ⟨⟨k1, k2, k3⟩, _⟩ := hf j hlt
      exact ⟨(f j).2, k2, k1, k3⟩
    · have h2 := hz _ List.mem_cons_self
      simp only [List.length_map, List.length_range] at h2 ⊢
      exact Nat.le_trans (Nat.mul_le_mul_right _ (Nat.le_add_right _ _)) h2
    · intro y hy
      obtain ⟨i, hi2, rfl⟩ := List.mem_map.1 hy
      exact (hf i (List.mem_range.1 hi2)).2
theorem opens_iso {α β : Type} {t : TypeId} {d : Kd α} {Z : α → Prop} (f : β → α) (g : α → β) (hfg : ∀ x, f (g x) = x) (h : Opens H enc w base spare held t d Z) : Opens H enc w base spare held t (Kd.iso d f) (fun b => Z (f b)) := by
  intro fuel cs x hx hz
  obtain ⟨y, hy, hw⟩ := h fuel cs x hx hz
  exact ⟨g y, by show d.K w (f (g y)) cs; rw [hfg]; exact hy, by simp only [hfg]; exact hw⟩
/-- From the i-th field on. -/
def Tl {α : Type} (w : World) (cs : List Value) (off : Nat) (d : Kd α) (Z : α → Prop) : Prop := ∃ y : α, d.K w y (cs.drop off) ∧ Z y
theorem tl_one {α : Type} {a : Kd α} {Z : α → Prop} {xs : List (DataW H × List MemPlace)} {cs : List Value} {n i off : Nat} {t : TypeId} (ha : Opens H enc w base spare held t a Z) (hi : i < xs.length) (hc : Try.prog.cellsOf t = a.sz)
    (ht : DataW.trod enc Try.prog w base spare held n t ((cs.drop off).take (Try.prog.cellsOf t)) = xs[i]?) (hz : ∀ x, xs[i]? = some x → ∀ n ∈ x.1.weights Try.prog t, n ≤ reachBytes) : ∃ y : α, a.K w y ((cs.drop off).take a.sz) ∧ Z y := by
  have h2 := hz _ (List.getElem?_eq_getElem hi)
  rw [List.getElem?_eq_getElem hi, hc] at ht
  exact ha _ _ _ ht h2
theorem tl_last {α : Type} {a : Kd α} {Z : α → Prop} {xs : List (DataW H × List MemPlace)} {cs : List Value} {n i off : Nat} {t : TypeId} (ha : Opens H enc w base spare held t a Z) (hi : xs.length = i + 1) (hc : Try.prog.cellsOf t = a.sz) (hl : cs.length = off + a.sz)
    (ht : DataW.trod enc Try.prog w base spare held n t ((cs.drop off).take (Try.prog.cellsOf t)) = xs[i]?) (hz : ∀ x, xs[i]? = some x → ∀ n ∈ x.1.weights Try.prog t, n ≤ reachBytes) : Tl w cs off a Z := by
  obtain ⟨y, hy, hw⟩ := tl_one ha (by omega) hc ht hz
  rw [List.take_of_length_le (by rw [List.length_drop]; omega)] at hy
  exact ⟨y, hy, hw⟩
theorem tl_cons {α β : Type} {a : Kd α} {b : Kd β} {Za : α → Prop} {Zb : β → Prop} {xs : List (DataW H × List MemPlace)} {cs : List Value} {n i off : Nat} {t : TypeId} (ha : Opens H enc w base spare held t a Za) (hi : i < xs.length) (hc : Try.prog.cellsOf t = a.sz)
    (ht : DataW.trod enc Try.prog w base spare held n t ((cs.drop off).take (Try.prog.cellsOf t)) = xs[i]?) (hz : ∀ x, xs[i]? = some x → ∀ n ∈ x.1.weights Try.prog t, n ≤ reachBytes) (h : Tl w cs (off + a.sz) b Zb) : Tl w cs off (Kd.pair a b) (fun p => Za p.1 ∧ Zb p.2) := by
  obtain ⟨y, hy, hw⟩ := tl_one ha hi hc ht hz
  obtain ⟨z, hz2, hw2⟩ := h
  refine ⟨(y, z), ⟨_, _, ?_, hy, hz2⟩, hw, hw2⟩
  rw [← List.drop_drop, List.take_append_drop]
theorem opens_struct {α : Type} {t : TypeId} {fs : Array Field} {d : Kd α} {Z : α → Prop} (ht : Try.prog.underlying t = some (.struct fs))
    (h : ∀ (n : Nat) (cs : List Value) (xs : List (DataW H × List MemPlace)), cs.length = Try.prog.cellsOf t → xs.length = fs.size → (∀ (i : Nat) (f : Field), fs[i]? = some f → DataW.trod enc Try.prog w base spare held n f.type ((cs.drop f.offset).take (Try.prog.cellsOf f.type)) = xs[i]?) → (∀ (i : Nat) (f : Field), fs[i]? = some f → ∀ x, xs[i]? = some x → ∀ n ∈ x.1.weights Try.prog f.type, n ≤ reachBytes) → Tl w cs 0 d Z) :
    Opens H enc w base spare held t d Z := by
  intro fuel cs x hx hz
  obtain ⟨xs, n, _, rfl, hlen, hxl, hf⟩ := DataW.trod_struct ht hx
  simp only [DataW.weights, ht] at hz
  obtain ⟨y, hy, hw⟩ := h n cs xs hlen hxl hf (fun i f hfi x hxi n hn => hz n (DataW.weights_mem_each (j := i) (t := f.type) (d := x.1) (by rw [List.getElem?_map, Array.getElem?_toList, hfi]; rfl) (by rw [List.getElem?_map, hxi]; rfl) n hn))
  rw [List.drop_zero] at hy
  exact ⟨y, hy, hw⟩
instance : Inhabited S46 := ⟨z46⟩
instance : Inhabited S34 := ⟨z34⟩
theorem opens44 : Opens H enc w base spare held 44 k44 (fun _ => True) := by
  have h : Opens H enc w base spare held 44 k44 _ := opens_iso (fun x : S44 => (x.f0, x.f1, x.f2, x.f3)) (fun p => ⟨p.1, p.2.1, p.2.2.1, p.2.2.2⟩) (fun _ => rfl) (opens_struct Try.underlying44 (fun n cs xs hl hx hf hz => by
    have c : Try.prog.cellsOf 44 = 4 := by kernel_rfl
    rw [c] at hl
    exact tl_cons (opens_int (by kernel_rfl)) (by rw [hx]; decide) (by kernel_rfl) (hf 0 _ rfl) (hz 0 _ rfl) (tl_cons (opens_int (by kernel_rfl)) (by rw [hx]; decide) (by kernel_rfl) (hf 1 _ rfl) (hz 1 _ rfl) (tl_cons (opens_int (by kernel_rfl)) (by rw [hx]; decide) (by kernel_rfl) (hf 2 _ rfl) (hz 2 _ rfl) (tl_last (opens_string (by kernel_rfl)) hx (by kernel_rfl) hl (hf 3 _ rfl) (hz 3 _ rfl))))))
  intro fuel cs x hx hz
  obtain ⟨y, hy, _⟩ := h fuel cs x hx hz
  exact ⟨y, hy, trivial⟩
theorem opens46 : Opens H enc w base spare held 46 k46 (fun _ => True) := by
  have h : Opens H enc w base spare held 46 k46 _ := opens_iso (fun x : S46 => (x.f0, x.f1)) (fun p => ⟨p.1, p.2⟩) (fun _ => rfl) (opens_struct Try.underlying46 (fun n cs xs hl hx hf hz => by
    have c : Try.prog.cellsOf 46 = 5 := by kernel_rfl
    rw [c] at hl
    exact tl_cons (opens_int (by kernel_rfl)) (by rw [hx]; decide) (by kernel_rfl) (hf 0 _ rfl) (hz 0 _ rfl) (tl_last opens44 hx (by kernel_rfl) hl (hf 1 _ rfl) (hz 1 _ rfl))))
  intro fuel cs x hx hz
  obtain ⟨y, hy, _⟩ := h fuel cs x hx hz
  exact ⟨y, hy, trivial⟩
theorem opens34 : Opens H enc w base spare held 34 k34 (fun x => x.f1.length < 2932031007402) := by
  have h : Opens H enc w base spare held 34 k34 _ := opens_iso (fun x : S34 => (x.f0, x.f1)) (fun p => ⟨p.1, p.2⟩) (fun _ => rfl) (opens_struct Try.underlying34 (fun n cs xs hl hx hf hz => by
    have c : Try.prog.cellsOf 34 = 2 := by kernel_rfl
    rw [c] at hl
    exact tl_cons (opens_int (by kernel_rfl)) (by rw [hx]; decide) (by kernel_rfl) (hf 0 _ rfl) (hz 0 _ rfl) (tl_last (opens_slice (e := 46) (by kernel_rfl) (by kernel_rfl) opens46) hx (by kernel_rfl) hl (hf 1 _ rfl) (hz 1 _ rfl))))
  intro fuel cs x hx hz
  obtain ⟨y, hy, hw⟩ := h fuel cs x hx hz
  refine ⟨y, hy, ?_⟩
  have h2 : y.f1.length * Try.prog.bytesOf 46 ≤ reachBytes := hw.2.1
  have hb : Try.prog.bytesOf 46 = 48 := by kernel_rfl
  rw [hb] at h2
  have hr : reachBytes = 140737488351232 := by decide
  rw [hr] at h2
  omega
end
end Go.Proofs.Ytpnoeggnniagfaa.P
