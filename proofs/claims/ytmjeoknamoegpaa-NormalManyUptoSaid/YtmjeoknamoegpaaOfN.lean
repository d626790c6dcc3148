-- by hand: normal.Of
import Derived.Test.YtmjeoknamoegpaaOfW
namespace Go.Proofs.Ytmjeoknamoegpaa.P
open Go.RowKit Go.Proofs.YtmjeoknamoegpaaW.PrintWords Go.Proofs.YtmjeoknamoegpaaW.PrintLast Go.Proofs.YtmjeoknamoegpaaW.PrintMore
set_option linter.unusedVariables false
set_option linter.unusedSimpArgs false
def foldP (l : List S30) : Stt := l.foldl stepP ([], [], 0)
theorem foldP_succ (l : List S30) (k : Nat) (x : S30) (h : l[k]? = some x) : foldP (l.take (k + 1)) = stepP (foldP (l.take k)) x := by
  unfold foldP
  rw [List.take_add_one, h]
  simp [List.foldl_append]
theorem StOk.fold0 (l : List S30) (hs : ∀ x ∈ l, x.f3.length ≤ 100000 ∧ x.f4.length ≤ 100000) : StOk (foldP l) l.length (tot l) := by
  have h := StOk.fold l ([], [], 0) 0 0 ⟨by simp, by simp⟩ hs
  unfold foldP
  simpa using h
theorem tot_take (l : List S30) (k : Nat) : tot (l.take k) ≤ tot l := by
  have h := congrArg List.sum (List.take_append_drop k (l.map fun o => o.f2.length))
  rw [List.sum_append] at h
  simp only [tot, List.map_take]
  omega
theorem le_sum_mem : ∀ {l : List Nat} {x : Nat}, x ∈ l → x ≤ l.sum
  | y :: l, x, h => by
    rcases List.mem_cons.1 h with rfl | h
    · simp
    · have := le_sum_mem h; simp; omega
def normal_Of.f (l0 : List S30) : Option (List S30) := if l0.length ≤ 100000 ∧ tot l0 ≤ 100000 ∧ ∀ x ∈ l0, x.f3.length ≤ 100000 ∧ x.f4.length ≤ 100000 then some (ofP l0) else none
def OfInv (w wr : World) (p : Nat) (s : Stt) : Prop := Below w.heap.size w wr ∧ Mk wr w.heap.size (fun b => w.heap.size ≤ b) p s.1 s.2.1 s.2.2
theorem OfInv.of {w wr w' : World} {p : Nat} {s s' : Stt} (h : OfInv w wr p s) (h2 : MkPost wr w.heap.size (fun b => w.heap.size ≤ b) p s'.1 s'.2.1 s'.2.2 w') : OfInv w w' p s' :=
  ⟨h.1.trans h2.2.2, Mk.mono h2.1 (fun k hk => hk.elim id (fun h3 => Nat.le_trans h.1.size h3))⟩

theorem OfInv.up {w wr w2 : World} {p : Nat} {s : Stt} (h : OfInv w wr p s) (hb : Below wr.heap.size wr w2) : OfInv w w2 p s := ⟨below_step h.1 hb, Mk.below h.2 hb⟩
theorem ret_case (w w2 : World) (p : Nat) (s : Stt) (x : S30) (k t : Nat) (hI : OfInv w w2 p s) (hst : StOk s k t) (hk : k ≤ 100000) (h1 : x.f0 = 1) (A4 : Option Addr) (c4 : Nat) (f4 : Kd.C k42 w A4 x.f4.length x.f4) (hl : x.f4.length ≤ c4) (hx4 : x.f4.length ≤ 100000) :
    Calls Try.prog 20 #[.pointer (some ⟨p, 0, none⟩), .int .i64 x.f1, .slice A4 x.f4.length c4] w2 fun e w' => e = .returned (.tuple #[]) ∧ OfInv w w' p (stepP s x) := by
  have hb := hst.1
  unfold stepP
  rw [if_pos h1]
  by_cases hn : x.f1 < 1
  · rw [if_pos hn]
    refine (retain_idle p s.1 s.2.1 s.2.2 w.heap.size _ x.f1 A4 x.f4.length c4 w2 hI.2 hn).mono ?_
    rintro e w' ⟨rfl, h⟩
    exact ⟨rfl, hI.of h⟩
  · rw [if_neg hn]
    refine (retain_calls p s.1 s.2.1 s.2.2 w.heap.size _ x.f1 A4 c4 x.f4 w2 hI.2 hI.1.size (fun w' _ hb => Kd.C_below f4 (hI.1.trans hb)) hl (by omega) (by omega) (by omega) (by omega)).mono ?_
    rintro e w' ⟨rfl, h⟩
    exact ⟨rfl, hI.of (s' := (retainP x.f1 x.f4 s.1 s.2.1 s.2.2, [], 0)) h⟩
theorem ins_case (w w2 : World) (p : Nat) (s : Stt) (x : S30) (k t : Nat) (hI : OfInv w w2 p s) (hst : StOk s k t) (hk : k ≤ 100000) (ht : t ≤ 100000) (h1 : x.f0 = 2) (A2 : Option Addr) (c2 : Nat) (f2 : Kd.C (Kd.int .i32) w A2 x.f2.length x.f2) (hl2 : x.f2.length ≤ c2) (hx2 : x.f2.length ≤ 100000) (A3 : Option Addr) (c3 : Nat) (f3 : Kd.C k40 w A3 x.f3.length x.f3) (hl3 : x.f3.length ≤ c3) (hx3 : x.f3.length ≤ 100000) :
    Calls Try.prog 21 #[.pointer (some ⟨p, 0, none⟩), .slice A2 x.f2.length c2, .slice A3 x.f3.length c3] w2 fun e w' => e = .returned (.tuple #[]) ∧ OfInv w w' p (stepP s x) := by
  have hb := hst.1
  unfold stepP
  rw [if_neg (by omega), if_pos h1]
  by_cases hn : x.f2 = []
  · rw [if_pos hn]
    have h0 : x.f2.length = 0 := by simp [hn]
    rw [h0]
    refine (insert_idle p s.1 s.2.1 s.2.2 w.heap.size _ A2 c2 A3 x.f3.length c3 w2 hI.2).mono ?_
    rintro e w' ⟨rfl, h⟩
    exact ⟨rfl, hI.of h⟩
  · rw [if_neg hn]
    refine (insert_calls p s.1 s.2.1 s.2.2 w.heap.size _ A2 c2 x.f2 A3 c3 x.f3 w2 hI.2 hI.1.size (Kd.C_below f2 hI.1) hl2 (Kd.C_below f3 hI.1) hl3 (List.length_pos_iff.2 hn) (by omega) (by omega) (by omega) (fun o ho => Nat.le_trans (hst.2 o (List.mem_append_right _ ho)).1 (by omega))).mono ?_
    rintro e w' ⟨rfl, h⟩
    exact ⟨rfl, hI.of (s' := (s.1, insertP x.f2 x.f3 s.2.1, s.2.2)) h⟩
theorem del_case (w w2 : World) (p : Nat) (s : Stt) (x : S30) (hI : OfInv w w2 p s) (h1 : x.f0 ≠ 1) (h2 : x.f0 ≠ 2) :
    Calls Try.prog 22 #[.pointer (some ⟨p, 0, none⟩), .int .i64 x.f1] w2 fun e w' => e = .returned (.tuple #[]) ∧ OfInv w w' p (stepP s x) := by
  unfold stepP
  rw [if_neg h1, if_neg h2]
  refine (delete_calls p x.f1 s.2.2 s.1 s.2.1 w.heap.size _ w2 hI.2).mono ?_
  rintro e w' ⟨rfl, h⟩
  exact ⟨rfl, hI.of (s' := (s.1, s.2.1, deleteP x.f1 s.2.2)) h⟩
theorem small_of {s : Stt} {k t : Nat} (h : StOk s k t) (ht : t ≤ 1000000) : Small (s.1 ++ gapP s.2.1 s.2.2) := by
  intro x hx
  rcases List.mem_append.1 hx with h2 | h2
  · obtain ⟨a, b, c⟩ := h.2 x (List.mem_append_left _ h2); omega
  · rcases gapP_mem h2 with h2 | rfl
    · obtain ⟨a, b, c⟩ := h.2 x (List.mem_append_right _ h2); omega
    · simp

set_option maxHeartbeats 4000000 in
set_option maxRecDepth 100000 in
theorem of_walk (A0 : Option Addr) (c0 : Nat) (l0 : List S30) (w : World) (hr0 : Kd.C k30 w A0 l0.length l0) (hc0 : l0.length ≤ c0) (h1 : l0.length ≤ 100000) (h2 : tot l0 ≤ 100000) (h3 : ∀ x ∈ l0, x.f3.length ≤ 100000 ∧ x.f4.length ≤ 100000) :
    Calls Try.prog 12 #[.slice A0 l0.length c0] w fun e w' => ∃ v0_ : Value, e = .returned (v0_) ∧ Kd.S k30 30 w' w.heap.size (fun _ => True) v0_ (ofP l0) ∧ Below w.heap.size w w' := by
  have HR := Aside0.mk hr0
  have H1 := Aside0.mk h1
  have H2 := Aside0.mk h2
  have H3 := Aside0.mk h3
  clear hr0 h3 h2
  go_enter Try.func12, Try.ntmps12
  go_wp2_with fail
  go_step3
  go_wp2_with fail
  go_at_call 19
  refine (new_calls w).mono ?_
  rintro e w1 ⟨rfl, rfl⟩
  have HI := Aside0.mk (show OfInv w _ w.heap.size (foldP (l0.take 0)) from ⟨below_alloc (Below.refl _ _) _, Mk_new w w.heap.size (Nat.le_refl _)⟩)
  go_wp2_with fail
  generalize w.alloc (.cells #[.slice none 0 0, .slice none 0 0, .int .i64 0] 46) = w1 at HI ⊢
  go_step3
  go_wp2_with fail
  go_loopw [9] (fun i wr => ∃ k : Nat, k ≤ l0.length ∧ i = .int .i64 k ∧ Aside0 (OfInv w wr w.heap.size (foldP (l0.take k)))) (fun i _ => l0.length - (intOf i).toNat)
  case atStart => exact ⟨0, Nat.zero_le _, rfl, HI⟩
  case round =>
    clear HI
    obtain ⟨k, hk, rfl, HI⟩ := hrel
    by_cases hlt : k < l0.length
    · obtain ⟨x, hx⟩ : ∃ x, l0[k]? = some x := ⟨_, List.getElem?_eq_getElem hlt⟩
      have hB := HI.out.1
      have hrd : rd_T30 l0 (k : Int) = x := by rw [rd30_get l0 k hlt]; exact (List.getElem?_eq_some_iff.1 hx).2
      obtain ⟨ad, A2, c2, A3, c3, A4, c4, eA, e0, e1, e2, e3, e4, l2, f2, l3, f3, l4, f4⟩ := at_T30 HR.out (k : Int) (by omega) (by omega)
      rw [hrd] at e0 e1 e2 e3 e4 l2 f2 l3 f3 l4 f4
      simp only [Int.toNat_natCast] at e0 e1 e2 e3 e4
      replace e0 := (hB.cell (World.block_lt_of_cell? _ _ e0)).trans e0
      replace e1 := (hB.cell (World.block_lt_of_cell? _ _ e1)).trans e1
      replace e2 := (hB.cell (World.block_lt_of_cell? _ _ e2)).trans e2
      replace e3 := (hB.cell (World.block_lt_of_cell? _ _ e3)).trans e3
      replace e4 := (hB.cell (World.block_lt_of_cell? _ _ e4)).trans e4
      have q1 : (k : Int) < (l0.length : Int) := by omega
      have q0 : (0 : Int) ≤ (k : Int) := Int.natCast_nonneg k
      subst eA
      have F2 := Aside0.mk f2
      have F3 := Aside0.mk f3
      have F4 := Aside0.mk f4
      have HX := Aside0.mk hx
      clear hB hrd f2 f3 f4 hx
      have hxm : x ∈ l0 := List.mem_of_getElem? HX.out
      obtain ⟨hx3, hx4⟩ := H3.out x hxm
      have hx2 : x.f2.length ≤ 100000 := Nat.le_trans (le_sum_mem (List.mem_map.2 ⟨x, hxm, rfl⟩)) H2.out
      clear hxm
      have hst := StOk.fold0 (l0.take k) (fun y hy => H3.out y (List.mem_of_mem_take hy))
      have htk := tot_take l0 k
      have hlk : (l0.take k).length = k := by rw [List.length_take]; omega
      rw [hlk] at hst
      have HST := Aside0.mk hst
      have HTK := Aside0.mk htk
      clear hst htk hlk
      have hst1 : foldP (l0.take (k + 1)) = stepP (foldP (l0.take k)) x := foldP_succ l0 k x HX.out
      have HS1 := Aside0.mk hst1
      clear hst1
      by_cases h1 : x.f0 = 1
      · have hb1 : (x.f0 == 1) = true := beq_iff_eq.2 h1
        go_wp2_with fail
        go_at_call 20
        have hb2 := below_alloc (Below.refl wr.heap.size wr) (.cells #[.int .u8 1, .int .i64 x.f1, .slice A2 x.f2.length c2, .slice A3 x.f3.length c3, .slice A4 x.f4.length c4] 30)
        generalize wr.alloc (.cells #[.int .u8 1, .int .i64 x.f1, .slice A2 x.f2.length c2, .slice A3 x.f3.length c3, .slice A4 x.f4.length c4] 30) = w2 at hb2 ⊢
        refine (ret_case w w2 w.heap.size _ x k _ (HI.out.up hb2) HST.out (by omega) h1 A4 c4 F4.out l4 hx4).mono ?_
        rintro e w3 ⟨rfl, h⟩
        rw [← HS1.out] at h
        have HN := Aside0.mk h
        clear h hb2 HI
        go_wp2_with fail
        go_roundw
        case rel => exact ⟨k + 1, by omega, by go_num, HN⟩
        case measure => simp [intOf]; omega
      · by_cases h2 : x.f0 = 2
        · have hb1 : (x.f0 == 1) = false := beq_eq_false_iff_ne.2 h1
          have hb1' : (x.f0 == 2) = true := beq_iff_eq.2 h2
          go_wp2_with fail
          go_at_call 21
          have hb2 := below_alloc (Below.refl wr.heap.size wr) (.cells #[.int .u8 2, .int .i64 x.f1, .slice A2 x.f2.length c2, .slice A3 x.f3.length c3, .slice A4 x.f4.length c4] 30)
          generalize wr.alloc (.cells #[.int .u8 2, .int .i64 x.f1, .slice A2 x.f2.length c2, .slice A3 x.f3.length c3, .slice A4 x.f4.length c4] 30) = w2 at hb2 ⊢
          refine (ins_case w w2 w.heap.size _ x k _ (HI.out.up hb2) HST.out (by omega) (by have := HTK.out; have := H2.out; omega) h2 A2 c2 F2.out l2 hx2 A3 c3 F3.out l3 hx3).mono ?_
          rintro e w3 ⟨rfl, h⟩
          rw [← HS1.out] at h
          have HN := Aside0.mk h
          clear h hb2 HI
          go_wp2_with fail
          go_roundw
          case rel => exact ⟨k + 1, by omega, by go_num, HN⟩
          case measure => simp [intOf]; omega
        · have hb1 : (x.f0 == 1) = false := beq_eq_false_iff_ne.2 h1
          have hb1' : (x.f0 == 2) = false := beq_eq_false_iff_ne.2 h2
          go_wp2_with fail
          go_at_call 22
          have hb2 := below_alloc (Below.refl wr.heap.size wr) (.cells #[.int .u8 x.f0, .int .i64 x.f1, .slice A2 x.f2.length c2, .slice A3 x.f3.length c3, .slice A4 x.f4.length c4] 30)
          generalize wr.alloc (.cells #[.int .u8 x.f0, .int .i64 x.f1, .slice A2 x.f2.length c2, .slice A3 x.f3.length c3, .slice A4 x.f4.length c4] 30) = w2 at hb2 ⊢
          refine (del_case w w2 w.heap.size _ x (HI.out.up hb2) h1 h2).mono ?_
          rintro e w3 ⟨rfl, h⟩
          rw [← HS1.out] at h
          have HN := Aside0.mk h
          clear h hb2 HI
          go_wp2_with fail
          go_roundw
          case rel => exact ⟨k + 1, by omega, by go_num, HN⟩
          case measure => simp [intOf]; omega
    · obtain rfl : k = l0.length := by omega
      go_wp2_with fail
      rw [List.take_length] at HI
      have hst := StOk.fold0 l0 H3.out
      have hb := hst.1
      go_at_call 23
      refine (ops_calls w.heap.size (foldP l0).1 (foldP l0).2.1 (foldP l0).2.2 w.heap.size _ wr HI.out.2 (by omega) (by omega) (small_of hst (by have := H2.out; omega))).mono ?_
      rintro e w3 ⟨v, rfl, hS, hb3⟩
      have HS := Aside0.mk (Kd.S_lower hS HI.out.1.size)
      have HBB := Aside0.mk (below_step HI.out.1 hb3)
      clear hS hb3 hst hb
      go_wp2_with fail
      rw [Exit.noGoto_ret]
      go_ret
      exact ⟨_, rfl, HS.out, HBB.out⟩
theorem normal_Of.calls (A0 : Option Addr) (c0 : Nat) (l0 : List (S30)) (r : List (S30)) (w : World) (hr0 : Kd.C k30 w A0 l0.length l0) (hc0 : l0.length ≤ c0) (h : normal_Of.f l0 = some r) :
    Calls Try.prog 12 #[.slice A0 l0.length c0] w fun e w' => ∃ v0_ : Value, e = .returned (v0_) ∧ Kd.S k30 30 w' w.heap.size (fun _ => True) v0_ r ∧ Below w.heap.size w w' := by
  unfold normal_Of.f at h
  split at h
  · rename_i hc
    obtain rfl := Option.some.inj h
    exact of_walk A0 c0 l0 w hr0 hc0 hc.1 hc.2.1 hc.2.2
  · cases h
end Go.Proofs.Ytmjeoknamoegpaa.P
