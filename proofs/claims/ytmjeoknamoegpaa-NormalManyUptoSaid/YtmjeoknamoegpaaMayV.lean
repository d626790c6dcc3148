-- by hand: rubricref03.May (a string is turned to bytes in it)
import Derived.Lib.ConvBytes
import Derived.Test.YtmjeoknamoegpaaPx7
namespace Go.Proofs.Ytmjeoknamoegpaa.P
open Go.RowKit Go.Proofs.YtmjeoknamoegpaaW.PrintWords Go.Proofs.YtmjeoknamoegpaaW.PrintLast Go.Proofs.YtmjeoknamoegpaaW.PrintMore
set_option linter.unusedVariables false
set_option linter.unusedSimpArgs false

theorem wrap64_at (n : Int) (h : -9223372036854775808 ≤ n ∧ n ≤ 9223372036854775807) : wrap64 n = n := by unfold wrap64; omega
theorem beq_nil8 (l : List UInt8) : (l == []) = l.isEmpty := by cases l <;> rfl
theorem one_some (r : Int) : ∃ l, rubricref01_one.f r = some l := by
  unfold rubricref01_one.f rubricref01_six.f
  repeat' split
  all_goals exact ⟨_, rfl⟩
theorem may_some (r : Int) : ∃ b, rubricref01_May.f r = some b := by
  unfold rubricref01_May.f
  repeat' split
  all_goals exact ⟨_, rfl⟩
theorem next_l0 (x0 : List Int) (x4 : Int) (h4 : x4 ≤ x0.length) (h4b : x4 ≤ 4) : ∀ (d k : Nat) (x5 x6 : Int), 0 ≤ x6 → x6 ≤ 4 → x4 - x6 ≤ d → d < k → ∃ r n, rubricref01_next.l0 k x0 x4 x5 x6 = some (r, n) ∧ (n = 0 ∨ n = x4)
  | d, 0, _, _, _, _, _, hk => by omega
  | d, k + 1, x5, x6, h0, h6, hd, hk => by
    unfold rubricref01_next.l0
    by_cases h : x6 < x4
    · obtain ⟨d, rfl⟩ : ∃ e, d = e + 1 := ⟨d - 1, by omega⟩
      rw [if_pos h, if_pos h0, if_pos (by omega)]
      split
      · exact ⟨_, _, rfl, .inl rfl⟩
      · split
        · exact ⟨_, _, rfl, .inl rfl⟩
        · rw [wrap64_at _ (by omega)]
          exact next_l0 x0 x4 h4 h4b d k _ (x6 + 1) (by omega) (by omega) (by omega) (by omega)
    · rw [if_neg h]
      obtain ⟨b, hb⟩ := may_some x5
      obtain ⟨l, hl⟩ := one_some x5
      rw [hb, hl]
      simp only [Option.bind_some]
      split
      · split
        · exact ⟨_, _, rfl, .inr rfl⟩
        · exact ⟨_, _, rfl, .inl rfl⟩
      · exact ⟨_, _, rfl, .inl rfl⟩
theorem next_some (x0 : List Int) (hp : 0 < x0.length) (k : Nat) (hk : 10 ≤ k) : ∃ r n, rubricref01_next.f k x0 = some (r, n) ∧ 0 ≤ n ∧ n ≤ 4 ∧ n ≤ x0.length := by
  have hj : ∀ (x4 x5 : Int), 1 ≤ x4 → x4 ≤ 4 → ∃ r n, rubricref01_next.j0 k x0 x4 x5 = some (r, n) ∧ 0 ≤ n ∧ n ≤ 4 ∧ n ≤ x0.length := by
    intro x4 x5 h1 h4
    obtain ⟨k, rfl⟩ : ∃ m, k = m + 1 := ⟨k - 1, by omega⟩
    simp only [rubricref01_next.j0]
    by_cases h : (x0.length : Int) < x4
    · rw [if_pos h]; exact ⟨_, _, rfl, by omega, by omega, by omega⟩
    · rw [if_neg h]
      obtain ⟨r, n, e, hn⟩ := next_l0 x0 x4 (by omega) h4 4 k x5 1 (by omega) (by omega) (by omega) (by omega)
      exact ⟨r, n, e, by omega, by omega, by omega⟩
  unfold rubricref01_next.f
  rw [if_pos (by omega)]
  repeat' split
  · exact hj 4 _ (by omega) (by omega)
  · exact hj 3 _ (by omega) (by omega)
  · exact hj 2 _ (by omega) (by omega)
  · exact ⟨_, _, rfl, by omega, by omega, by omega⟩
  · exact hj 1 _ (by omega) (by omega)
theorem read_l0 (x0 : List Int) (hl : x0.length ≤ 20000) : ∀ (d k : Nat) (x4 : List Int) (x5 : Int), 0 ≤ x5 → x5 ≤ x0.length → x0.length - x5 ≤ d → d + 20 ≤ k → x4.length ≤ x5 → ∃ l e, rubricref01_Read.l0 k x0 x4 x5 = some (l, e)
  | d, 0, _, _, _, _, _, hk, _ => by omega
  | d, k + 1, x4, x5, h0, h5, hd, hk, h4 => by
    unfold rubricref01_Read.l0
    by_cases h : x5 < (x0.length : Int)
    · obtain ⟨d, rfl⟩ : ∃ e, d = e + 1 := ⟨d - 1, by omega⟩
      rw [if_pos h, if_pos h0, if_pos h5]
      obtain ⟨r, n, e, hn0, hn4, hnl⟩ := next_some (x0.drop x5.toNat) (by rw [List.length_drop]; omega) k (by omega)
      rw [List.length_drop] at hnl
      rw [e]
      simp only [Option.bind_some]
      split
      · exact ⟨_, _, rfl⟩
      · rw [if_pos (by omega), wrap64_at _ (by omega)]
        exact read_l0 x0 hl d k _ _ (by omega) (by omega) (by omega) (by omega) (by rw [List.length_append, List.length_singleton]; omega)
    · rw [if_neg h]; exact ⟨_, _, rfl⟩
theorem read_some (x0 : List Int) (hl : x0.length ≤ 20000) : ∃ k l e, rubricref01_Read.f k x0 = some (l, e) := by
  obtain ⟨l, e, h⟩ := read_l0 x0 hl x0.length (x0.length + 20) [] 0 (by omega) (by omega) (by omega) (by omega) (by simp)
  exact ⟨_, l, e, h⟩
theorem read_le (x0 : List Int) (k d : Nat) : LeO (rubricref01_Read.f k x0) (rubricref01_Read.f (k + d) x0) := by
  induction d with
  | zero => exact LeO.refl _
  | succ d ih => exact fun r h => rubricref01_Read.mono _ (k + d) r (ih r h)

/-- Do bytes tell runes? -/
def readOk (s : ByteArray) : Bool := match rubricref01_Read.f 20020 (bytesOf s) with
  | some (_, e) => e == 0
  | none => false
theorem read_le' (x0 : List Int) {k k2 : Nat} (h : k ≤ k2) : LeO (rubricref01_Read.f k x0) (rubricref01_Read.f k2 x0) := by
  obtain ⟨d, rfl⟩ := Nat.exists_eq_add_of_le h
  exact read_le x0 k d
theorem readOk_of {s : ByteArray} {k : Nat} {l : List Int} {e : Int} (hs : s.size ≤ 20000) (h : rubricref01_Read.f k (bytesOf s) = some (l, e)) : readOk s = (e == 0) := by
  obtain ⟨l2, e2, h2⟩ := read_l0 (bytesOf s) (by rw [bytesOf_length]; exact hs) (bytesOf s).length 20020 [] 0 (by omega) (by omega) (by omega) (by rw [bytesOf_length]; omega) (by simp)
  have h2' : rubricref01_Read.f 20020 (bytesOf s) = some (l2, e2) := h2
  have a1 := read_le (bytesOf s) k 20020 _ h
  have a2 := read_le (bytesOf s) 20020 k _ h2'
  rw [Nat.add_comm] at a2
  rw [a1] at a2
  cases a2
  unfold readOk
  rw [h2']
def mayV (a0 a1 a2 : Int) (s : ByteArray) : Bool :=
  if a0 = 1 then a2 == 0 && s.toList.isEmpty && (a1 == 0 || a1 == 1)
  else if a0 = 2 then a2 == 0 && s.toList.isEmpty
  else if a0 = 3 then a1 == 0 && s.toList.isEmpty && (!decide (Int.tmod a2 9223372036854775808 > 9218868437227405312) || a2 == 9221120237041090560)
  else if a0 = 4 then a1 == 0 && a2 == 0 && decide (s.size ≤ 64) && readOk s
  else false
def rubricref03_May.f (a0_0 : Int) (a0_1 : Int) (a0_2 : Int) (a0_3 : ByteArray) : Option (Bool) := if a0_3.size ≤ 20000 then some (mayV a0_0 a0_1 a0_2 a0_3) else none
theorem readS_calls (k : Nat) (A : Option Addr) (c : Nat) (s : ByteArray) (l : List Int) (e0 : Int) (w : World) (hr : ReadsInt w .u8 A s.size (bytesOf s)) (hc : s.size ≤ c) (h : rubricref01_Read.f k (bytesOf s) = some (l, e0)) :
    Calls Try.prog 60 #[.slice A s.size c] w fun e w' => ∃ v0_ : Value, e = .returned (.tuple #[v0_, .int .i64 e0]) ∧ Below w.heap.size w w' := by
  have h2 := rubricref01_Read.calls k A c (bytesOf s) l e0 w (by rw [bytesOf_length]; exact Kd.C_of_reads (readsInt_of.1 hr)) (by rw [bytesOf_length]; exact hc) h
  rw [bytesOf_length] at h2
  exact h2.mono fun e w' ⟨v, h1, _, h3⟩ => ⟨v, h1, h3⟩
set_option maxHeartbeats 1000000 in
set_option maxRecDepth 100000 in
theorem may_1 (a1 a2 : Int) (s : ByteArray) (w : World) : Calls Try.prog 54 #[.agg #[.int .u8 1, .int .i64 a1, .int .u64 a2, .string s]] w fun e w' => e = .returned (.bool (a2 == 0 && s.toList.isEmpty && (a1 == 0 || a1 == 1))) ∧ Below w.heap.size w w' := by
  go_enter Try.func54, Try.ntmps54
  go_wp2
  all_goals (go_ret; refine ⟨?_, below_alloc (Below.refl _ _) _⟩; simp [*])
set_option maxHeartbeats 1000000 in
set_option maxRecDepth 100000 in
theorem may_2 (a1 a2 : Int) (s : ByteArray) (w : World) : Calls Try.prog 54 #[.agg #[.int .u8 2, .int .i64 a1, .int .u64 a2, .string s]] w fun e w' => e = .returned (.bool (a2 == 0 && s.toList.isEmpty)) ∧ Below w.heap.size w w' := by
  go_enter Try.func54, Try.ntmps54
  go_wp2
  all_goals (go_ret; refine ⟨?_, below_alloc (Below.refl _ _) _⟩; simp [*])
set_option maxHeartbeats 1000000 in
set_option maxRecDepth 100000 in
theorem may_3 (a1 a2 : Int) (s : ByteArray) (w : World) : Calls Try.prog 54 #[.agg #[.int .u8 3, .int .i64 a1, .int .u64 a2, .string s]] w fun e w' => e = .returned (.bool (a1 == 0 && s.toList.isEmpty && (!decide (Int.tmod a2 9223372036854775808 > 9218868437227405312) || a2 == 9221120237041090560))) ∧ Below w.heap.size w w' := by
  go_enter Try.func54, Try.ntmps54
  go_wp2_with (go_at_call 59; refine (rubricref03_none.calls _ _ _ rfl).mono ?_; rintro e w' ⟨rfl, ⟨nd, rfl⟩⟩)
  all_goals (go_ret; refine ⟨?_, by repeat (first | exact Below.refl _ _ | apply pw_below_drewN | apply below_alloc)⟩; simp [*])
set_option maxHeartbeats 1000000 in
set_option maxRecDepth 100000 in
theorem may_4 (a1 a2 : Int) (s : ByteArray) (w : World) (hs : s.size ≤ 20000) : Calls Try.prog 54 #[.agg #[.int .u8 4, .int .i64 a1, .int .u64 a2, .string s]] w fun e w' => e = .returned (.bool (a1 == 0 && a2 == 0 && decide (s.size ≤ 64) && readOk s)) ∧ Below w.heap.size w w' := by
  obtain ⟨k, l, e0, he0⟩ := read_some (bytesOf s) (by rw [bytesOf_length]; exact hs)
  rw [readOk_of hs he0]
  have HE := Aside0.mk he0
  have HS := Aside0.mk hs
  clear he0 hs
  have hbx := heap_alloc_new w (.cells #[.int .u8 4, .int .i64 a1, .int .u64 a2, .string s] 38)
  have hbb := below_alloc (Below.refl w.heap.size w) (.cells #[.int .u8 4, .int .i64 a1, .int .u64 a2, .string s] 38)
  have hsz : (w.alloc (.cells #[.int .u8 4, .int .i64 a1, .int .u64 a2, .string s] 38)).heap.size = w.heap.size + 1 := by simp
  have kb := print_bytes (P := Try.prog) 9 81 5 Try.underlying9 Try.underlying81 Try.underlying5 s (w.alloc (.cells #[.int .u8 4, .int .i64 a1, .int .u64 a2, .string s] 38))
  have hr := bytes_reads (w.alloc (.cells #[.int .u8 4, .int .i64 a1, .int .u64 a2, .string s] 38)) 5 s (by have := HS.out; omega)
  have hg := grownCap_ge (w.alloc (.cells #[.int .u8 4, .int .i64 a1, .int .u64 a2, .string s] 38)) s.size 0 5
  have hB2 := bytes_below hbb (by rw [hsz]; omega) 5 s
  have hB3 := bytes_below (Below.refl (w.heap.size + 1) (w.alloc (.cells #[.int .u8 4, .int .i64 a1, .int .u64 a2, .string s] 38))) (by rw [hsz]; omega) 5 s
  have hblk : (Lib.bytesWorld (w.alloc (.cells #[.int .u8 4, .int .i64 a1, .int .u64 a2, .string s] 38)) 5 s).heap[w.heap.size]? = some (.cells #[.int .u8 4, .int .i64 a1, .int .u64 a2, .string s] 38 (0, 0)) := (hB3.block w.heap.size (by omega)).trans hbx
  rw [hsz] at kb hr
  generalize Lib.bytesWorld (w.alloc (.cells #[.int .u8 4, .int .i64 a1, .int .u64 a2, .string s] 38)) 5 s = W2 at kb hr hB2 hB3 hblk
  generalize grownCap (w.alloc (.cells #[.int .u8 4, .int .i64 a1, .int .u64 a2, .string s] 38)) s.size 0 5 = G at kb hg
  have HRd := Aside0.mk hr
  have HG := Aside0.mk hg
  have HB2 := Aside0.mk hB2
  have HBK := Aside0.mk hblk
  clear hr hg hB2 hB3 hblk hbx hbb hsz
  go_enter Try.func54, Try.ntmps54
  go_wp2_with fail
  go_at_call 60
  refine (readS_calls k _ _ s l e0 _ HRd.out HG.out HE.out).mono ?_
  rintro e w' ⟨v, rfl, hb⟩
  have hblk : w'.heap[w.heap.size]? = some (.cells #[.int .u8 4, .int .i64 a1, .int .u64 a2, .string s] 38 (0, 0)) := (hb.block w.heap.size (blk_lt HBK.out)).trans HBK.out
  have h0 : w'.cell? ⟨w.heap.size, 0, none⟩ = some (.int .u8 4) := by (simp [World.cell?, hblk])
  have h1 : w'.cell? ⟨w.heap.size, 1, none⟩ = some (.int .i64 a1) := by (simp [World.cell?, hblk])
  have h2 : w'.cell? ⟨w.heap.size, 2, none⟩ = some (.int .u64 a2) := by (simp [World.cell?, hblk])
  have h3 : w'.cell? ⟨w.heap.size, 3, none⟩ = some (.string s) := by (simp [World.cell?, hblk])
  have HB4 := Aside0.mk (below_step HB2.out hb)
  clear hb hblk
  go_wp2
  all_goals (go_ret; refine ⟨?_, by repeat (first | exact HB4.out | apply pw_below_drewN)⟩; simp [*]; try (intros; omega))
set_option maxHeartbeats 1000000 in
set_option maxRecDepth 100000 in
theorem may_5 (a0 a1 a2 : Int) (s : ByteArray) (w : World) (h1 : (a0 == 1) = false) (h2 : (a0 == 2) = false) (h3 : (a0 == 3) = false) (h4 : (a0 == 4) = false) : Calls Try.prog 54 #[.agg #[.int .u8 a0, .int .i64 a1, .int .u64 a2, .string s]] w fun e w' => e = .returned (.bool false) ∧ Below w.heap.size w w' := by
  go_enter Try.func54, Try.ntmps54
  go_wp2
  go_ret
  exact ⟨rfl, below_alloc (Below.refl _ _) _⟩
theorem rubricref03_May.calls (a0_0 : Int) (a0_1 : Int) (a0_2 : Int) (a0_3 : ByteArray) (r : Bool) (w : World) (h : rubricref03_May.f a0_0 a0_1 a0_2 a0_3 = some r) :
    Calls Try.prog 54 #[.agg #[.int .u8 a0_0, .int .i64 a0_1, .int .u64 a0_2, .string a0_3]] w fun e w' => e = .returned (.bool r) ∧ Below w.heap.size w w' := by
  unfold rubricref03_May.f at h
  split at h
  · rename_i hs
    obtain rfl := (Option.some.inj h).symm
    unfold mayV
    repeat' split
    · subst_vars; exact may_1 _ _ _ _
    · subst_vars; exact may_2 _ _ _ _
    · subst_vars; exact may_3 _ _ _ _
    · subst_vars; exact may_4 _ _ _ _ hs
    · exact may_5 _ _ _ _ _ (beq_eq_false_iff_ne.2 (by assumption)) (beq_eq_false_iff_ne.2 (by assumption)) (beq_eq_false_iff_ne.2 (by assumption)) (beq_eq_false_iff_ne.2 (by assumption))
  · cases h
end Go.Proofs.Ytmjeoknamoegpaa.P
