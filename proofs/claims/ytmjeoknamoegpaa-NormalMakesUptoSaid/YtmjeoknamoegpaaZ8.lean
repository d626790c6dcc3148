-- several texts in one: RefGap RefOf IsN Sums RefIs TameH Known
import Derived.Test.YtmjeoknamoegpaaZ5
import Derived.Test.YtmjeoknamoegpaaZ7
namespace Go.Proofs.Ytmjeoknamoegpaa.P
open Go.RowKit Go.Proofs.YtmjeoknamoegpaaW.PrintWords Go.Proofs.YtmjeoknamoegpaaW.PrintLast Go.Proofs.YtmjeoknamoegpaaW.PrintMore
set_option linter.unusedVariables false
set_option linter.unusedSimpArgs false
theorem gfold_succ (l : List S30) (k : Nat) (x : S30) (h : l[k]? = some x) : (l.take (k + 1)).foldl gstep ([], 0) = gstep ((l.take k).foldl gstep ([], 0)) x := by
 rw [List.take_add_one, h]
 simp [List.foldl_append]
theorem gstep_len (s : List S30 × Int) (o : S30) : (gstep s o).1.length ≤ s.1.length + 1 := by
 unfold gstep
 split
 ·simp only; omega
 ·split
  ·rename_i l hl
   split
   ·simp only [List.length_append, List.length_dropLast, List.length_singleton]; omega
   ·simp only [List.length_append, List.length_singleton]; omega
  ·simp only [List.length_append, List.length_singleton]; omega
theorem gfold_len : ∀ (l : List S30) (s : List S30 × Int), (l.foldl gstep s).1.length ≤ s.1.length + l.length
 | [], s => by simp
 | o :: l, s => by
  have h := gfold_len l (gstep s o)
  have h2 := gstep_len s o
  simp only [List.foldl_cons, List.length_cons]
  omega
theorem okp_N {W : World} {base : Nat} {okI okN : Nat → Prop} {v : Value} {xs : List S30} (h : Kd.N k30 30 W base okN v xs) (hoI : ∀ j, okI j → j < base) (hs : ∀ j, okI j → okN j) : ∀ j, okI j → okN j ∧ some j ≠ v.ownBlock := fun j hj => ⟨hs j hj, fun e_ => by have := Kd.N_base h j e_.symm; have := hoI j hj; omega⟩
theorem gfold_f2 : ∀ (l : List S30) (s : List S30 × Int) (t : Nat), (∀ o ∈ s.1, o.f2.length ≤ t) → ∀ o ∈ (l.foldl gstep s).1, o.f2.length ≤ t + tot l
 | [], s, t, h, o, ho => by have := h o ho; omega
 | x :: l, s, t, h, o, ho => by
  have e : tot (x :: l) = x.f2.length + tot l := by simp [tot]
  have h2 := gfold_f2 l (gstep s x) (t + x.f2.length) (fun y hy => by
   unfold gstep at hy
   split at hy
   ·have := h y hy; omega
   ·split at hy
    ·rename_i b hb
     split at hy
     ·rcases List.mem_append.1 hy with hy | hy
      ·have := h y (List.dropLast_subset _ hy); omega
      ·rw [List.mem_singleton.1 hy]; have := h b (List.mem_of_getLast? hb); simp only [List.length_append]; omega
     ·rcases List.mem_append.1 hy with hy | hy
      ·have := h y hy; omega
      ·rw [List.mem_singleton.1 hy]; omega
    ·rcases List.mem_append.1 hy with hy | hy
     ·have := h y hy; omega
     ·rw [List.mem_singleton.1 hy]; omega) o ho
  omega
def GI (okI : Nat → Prop) (w wr : World) (v : Value) (out : List S30) : Prop := Below w.heap.size w wr ∧ Kd.N k30 30 wr w.heap.size (fun j => okI j ∨ w.heap.size ≤ j) v out
set_option maxHeartbeats 4000000 in
set_option maxRecDepth 100000 in
theorem gap34_calls (okI : Nat → Prop) (A0 : Option Addr) (c0 : Nat) (l0 : List S30) (w : World) (hoI : ∀ j, okI j → j < w.heap.size) (hr0 : Kd.F k30 w okI A0 l0.length l0) (hc0 : l0.length ≤ c0) (hl : l0.length ≤ 100000) (ht : tot l0 ≤ 100000) :
  Calls Try.prog 34 #[.slice A0 l0.length c0] w fun e w' => ∃ v0_ : Value, e = .returned (v0_) ∧ Kd.N k30 30 w' w.heap.size (fun j => okI j ∨ w.heap.size ≤ j) v0_ (gapR l0) ∧ Below w.heap.size w w' := by
 have HR := Aside0.mk hr0
 have HOI := Aside0.mk hoI
 have HT := Aside0.mk ht
 clear hr0 ht hoI
 go_enter Try.func34, Try.ntmps34
 go_wp2_with fail
 go_loopw [3, 4, 5] (fun o g i wr => ∃ k : Nat, k ≤ l0.length ∧ i = .int .i64 k ∧ g = .int .i64 ((l0.take k).foldl gstep ([], 0)).2 ∧ Aside0 (GI okI w wr o ((l0.take k).foldl gstep ([], 0)).1)) (fun _ _ i _ => l0.length - (intOf i).toNat)
 case atStart => exact ⟨0, Nat.zero_le _, rfl, rfl, ⟨Below.refl _ _, Kd.N_nil _ _ _ _ _⟩⟩
 case round =>
  obtain ⟨k, hk, rfl, rfl, HI⟩ := hrel
  by_cases hlt : k < l0.length
  ·obtain ⟨x, hx⟩ : ∃ x, l0[k]? = some x := ⟨_, List.getElem?_eq_getElem hlt⟩
   have hst1 := gfold_succ l0 k x hx
   have hlen := gfold_len (l0.take k) ([], 0)
   rw [List.length_take] at hlen
   have HLEN : Aside0 (((l0.take k).foldl gstep ([], 0)).1.length ≤ 100000) := ⟨by simp only [List.length_nil] at hlen; omega⟩
   clear hlen
   have HF2 : Aside0 (∀ o ∈ ((l0.take k).foldl gstep ([], 0)).1, o.f2.length ≤ 100000) := ⟨fun o ho => by have h1 := gfold_f2 (l0.take k) ([], 0) 0 (by simp) o ho; have h2 := tot_take l0 k; have := HT.out; omega⟩
   have HX2 : Aside0 (x.f2.length ≤ 100000) := ⟨Nat.le_trans (le_sum_mem (List.mem_map.2 ⟨x, List.mem_of_getElem? hx, rfl⟩)) HT.out⟩
   generalize (l0.take k).foldl gstep ([], 0) = s at HI hst1 HLEN HF2
   obtain ⟨out, g⟩ := s
   replace HLEN : Aside0 (out.length ≤ 100000) := HLEN
   replace HF2 : Aside0 (∀ o ∈ out, o.f2.length ≤ 100000) := HF2
   obtain ⟨hB, hN⟩ := HI.out
   replace hN : Kd.N k30 30 wr w.heap.size (fun j => okI j ∨ w.heap.size ≤ j) _ out := hN
   obtain ⟨ad, cx, eA, hcl, hFKx, hcx, _⟩ := Kd.F_get HR.out z30 (k : Int) (by omega) (by omega)
   have hgx : l0.getD (k : Int).toNat z30 = x := by rw [Int.toNat_natCast, List.getD_eq_getElem?_getD, hx]; rfl
   rw [hgx] at hFKx
   obtain ⟨A2, c2, A3, c3, A4, c4, rfl, l2, f2, l3, f3, l4, f4⟩ := k30_openF hFKx
   have e0 := hcx 0 _ rfl
   have e1 := hcx 1 _ rfl
   have e2 := hcx 2 _ rfl
   have e3 := hcx 3 _ rfl
   have e4 := hcx 4 _ rfl
   rw [add_field _ _ 1 (by omega)] at e1
   rw [add_field _ _ 2 (by omega)] at e2
   rw [add_field _ _ 3 (by omega)] at e3
   rw [add_field _ _ 4 (by omega)] at e4
   clear hFKx hcx hcl hgx
   simp only [Int.toNat_natCast, Nat.add_zero] at e0 e1 e2 e3 e4
   replace e0 : w.cell? (ad.add (k * 5)) = some (.int .u8 x.f0) := e0
   replace e1 : w.cell? ⟨(ad.add (k * 5)).block, (ad.add (k * 5)).off + 1, none⟩ = some (.int .i64 x.f1) := e1
   replace e2 : w.cell? ⟨(ad.add (k * 5)).block, (ad.add (k * 5)).off + 2, none⟩ = some (.slice A2 x.f2.length c2) := e2
   replace e3 : w.cell? ⟨(ad.add (k * 5)).block, (ad.add (k * 5)).off + 3, none⟩ = some (.slice A3 x.f3.length c3) := e3
   replace e4 : w.cell? ⟨(ad.add (k * 5)).block, (ad.add (k * 5)).off + 4, none⟩ = some (.slice A4 x.f4.length c4) := e4
   replace e0 := (hB.cell (World.block_lt_of_cell? _ _ e0)).trans e0
   replace e1 := (hB.cell (World.block_lt_of_cell? _ _ e1)).trans e1
   replace e2 := (hB.cell (World.block_lt_of_cell? _ _ e2)).trans e2
   replace e3 := (hB.cell (World.block_lt_of_cell? _ _ e3)).trans e3
   replace e4 := (hB.cell (World.block_lt_of_cell? _ _ e4)).trans e4
   have q1 : (k : Int) < (l0.length : Int) := by omega
   have q0 : (0 : Int) ≤ (k : Int) := Int.natCast_nonneg k
   subst eA
   obtain ⟨Ao, co, rfl⟩ := Kd.N_slice hN
   have F2 := Aside0.mk f2
   have F3 := Aside0.mk f3
   have F4 := Aside0.mk f4
   have HN := Aside0.mk hN
   have HB := Aside0.mk hB
   have HST := Aside0.mk hst1
   have C2 := Aside0.mk (Kd.F_now f2)
   have C3 := Aside0.mk (Kd.F_now f3)
   clear hB f2 f3 f4 hx hst1 hN HI
   by_cases h3 : x.f0 = 3
   ·have hb3 : (x.f0 == 3) = true := beq_iff_eq.2 h3
    go_wp2_with fail
    go_roundw
    case rel =>
     refine ⟨k + 1, by omega, by go_num, ?_, ?_⟩
     ·rw [HST.out]; unfold gstep; rw [if_pos h3]
     ·rw [HST.out]; unfold gstep; rw [if_pos h3]
      exact ⟨below_step HB.out (below_alloc (Below.refl _ _) _), Kd.N_alloc HN.out _⟩
    case measure => simp [intOf]; omega
   ·have hb3 : (x.f0 == 3) = false := beq_eq_false_iff_ne.2 h3
    go_upto_region 10 with (fail)
    have hbx : (wr.alloc (.cells #[.int .u8 x.f0, .int .i64 x.f1, .slice A2 x.f2.length c2, .slice A3 x.f3.length c3, .slice A4 x.f4.length c4] 30)).heap[wr.heap.size]? = some (.cells #[.int .u8 x.f0, .int .i64 x.f1, .slice A2 x.f2.length c2, .slice A3 x.f3.length c3, .slice A4 x.f4.length c4] 30 (0, 0)) := heap_alloc_new wr _
    have hbw := below_alloc (Below.refl wr.heap.size wr) (.cells #[.int .u8 x.f0, .int .i64 x.f1, .slice A2 x.f2.length c2, .slice A3 x.f3.length c3, .slice A4 x.f4.length c4] 30)
    generalize wr.alloc (.cells #[.int .u8 x.f0, .int .i64 x.f1, .slice A2 x.f2.length c2, .slice A3 x.f3.length c3, .slice A4 x.f4.length c4] 30) = w3 at hbx hbw ⊢
    replace HB := Aside0.mk (below_step HB.out hbw)
    replace HN := Aside0.mk (Kd.N_below HN.out hbw)
    have BX := Aside0.mk hbx
    clear hbx hbw e0 e1 e2 e3 e4
    generalize wr.heap.size = bx at BX ⊢
    obtain ⟨n1, hn1⟩ : ∃ n, wrap64 ((out.length : Int) - 1) = n := ⟨_, rfl⟩
    rw [hn1]
    by_cases ho : out = []
    ·have hd : decide (0 ≤ n1) = false := by rw [← hn1, ho, w64 _ (by simp)]; simp
     have hgs : (l0.take (k + 1)).foldl gstep ([], 0) = (out ++ [x], g) := by rw [HST.out]; unfold gstep; rw [if_neg h3]; simp only [ho]; rfl
     have HG := Aside0.mk hgs
     clear hgs hn1
     refine start_ (n := 12) (S := fun _ => True) (ds := []) #[false, false, false, false, false, false, false, false, false, false, false, false] (by kernel_rfl) rfl rfl trivial (fun hHeld => ?_)
     have hb := below_drew (Below.refl w3.heap.size w3)
     generalize w3.drew = w4 at hb hHeld ⊢
     replace HB := Aside0.mk (below_step HB.out hb)
     replace HN := Aside0.mk (Kd.N_below HN.out hb)
     replace BX := Aside0.mk (blk_below BX.out hb)
     clear hb hHeld
     refine pure_ (i := 0) (N := some 28) (v := ?_) (a' := ?_) #[true, false, false, false, false, false, false, false, false, false, false, false] rfl rfl (any_of rfl (by kernel_rfl)) (fun _ _ _ h => h) (Or.inl ⟨by rfl, ?_⟩) ?_ ?_
     rotate_left
     ·intro w'
      go_simp
      with_reducible rfl
     rotate_left
     ·simp only [Act.put, List.setIfInBounds_toArray, List.set_cons_zero, List.set_cons_succ, i64_w, i32_w]
      rfl
     refine pure_ (i := 1) (N := some 29) (v := ?_) (a' := ?_) #[true, true, false, false, false, false, false, false, false, false, false, false] rfl rfl (any_of rfl (by kernel_rfl)) (fun _ _ _ h => h) (Or.inl ⟨by rfl, ?_⟩) ?_ ?_
     rotate_left
     ·intro w'
      go_simp
      with_reducible rfl
     rotate_left
     ·simp only [Act.put, List.setIfInBounds_toArray, List.set_cons_zero, List.set_cons_succ, i64_w, i32_w]
      rfl
     refine pure_ (i := 2) (N := some 30) (v := ?_) (a' := ?_) #[true, true, true, false, false, false, false, false, false, false, false, false] rfl rfl (any_of rfl (by kernel_rfl)) (fun _ _ _ h => h) (Or.inl ⟨by rfl, ?_⟩) ?_ ?_
     rotate_left
     ·intro w'
      go_simp
      with_reducible rfl
     rotate_left
     ·simp only [Act.put, List.setIfInBounds_toArray, List.set_cons_zero, List.set_cons_succ, i64_w, i32_w]
      rfl
     refine pure_ (i := 3) (N := some 31) (v := undef) (a' := ?_) #[true, true, true, true, false, false, false, false, false, false, false, false] rfl rfl (any_of rfl (by kernel_rfl)) (fun _ _ _ h => h) (Or.inr ⟨by rfl, rfl⟩) ?_ ?_
     rotate_left
     ·simp only [Act.put, List.setIfInBounds_toArray, List.set_cons_zero, List.set_cons_succ, i64_w, i32_w]
      rfl
     refine pure_ (i := 4) (N := some 32) (v := undef) (a' := ?_) #[true, true, true, true, true, false, false, false, false, false, false, false] rfl rfl (any_of rfl (by kernel_rfl)) (fun _ _ _ h => h) (Or.inr ⟨by rfl, rfl⟩) ?_ ?_
     rotate_left
     ·simp only [Act.put, List.setIfInBounds_toArray, List.set_cons_zero, List.set_cons_succ, i64_w, i32_w]
      rfl
     refine pure_ (i := 5) (N := some 33) (v := undef) (a' := ?_) #[true, true, true, true, true, true, false, false, false, false, false, false] rfl rfl (any_of rfl (by kernel_rfl)) (fun _ _ _ h => h) (Or.inr ⟨by rfl, rfl⟩) ?_ ?_
     rotate_left
     ·simp only [Act.put, List.setIfInBounds_toArray, List.set_cons_zero, List.set_cons_succ, i64_w, i32_w]
      rfl
     refine pure_ (i := 6) (N := some 34) (v := undef) (a' := ?_) #[true, true, true, true, true, true, true, false, false, false, false, false] rfl rfl (any_of rfl (by kernel_rfl)) (fun _ _ _ h => h) (Or.inr ⟨by rfl, rfl⟩) ?_ ?_
     rotate_left
     ·simp only [Act.put, List.setIfInBounds_toArray, List.set_cons_zero, List.set_cons_succ, i64_w, i32_w]
      rfl
     refine pure_ (i := 7) (N := some 35) (v := undef) (a' := ?_) #[true, true, true, true, true, true, true, true, false, false, false, false] rfl rfl (any_of rfl (by kernel_rfl)) (fun _ _ _ h => h) (Or.inr ⟨by rfl, rfl⟩) ?_ ?_
     rotate_left
     ·simp only [Act.put, List.setIfInBounds_toArray, List.set_cons_zero, List.set_cons_succ, i64_w, i32_w]
      rfl
     refine pure_ (i := 8) (N := some 36) (v := undef) (a' := ?_) #[true, true, true, true, true, true, true, true, true, false, false, false] rfl rfl (any_of rfl (by kernel_rfl)) (fun _ _ _ h => h) (Or.inr ⟨by rfl, rfl⟩) ?_ ?_
     rotate_left
     ·simp only [Act.put, List.setIfInBounds_toArray, List.set_cons_zero, List.set_cons_succ, i64_w, i32_w]
      rfl
     refine pure_ (i := 9) (N := some 37) (v := undef) (a' := ?_) #[true, true, true, true, true, true, true, true, true, true, false, false] rfl rfl (any_of rfl (by kernel_rfl)) (fun _ _ _ h => h) (Or.inr ⟨by rfl, rfl⟩) ?_ ?_
     rotate_left
     ·simp only [Act.put, List.setIfInBounds_toArray, List.set_cons_zero, List.set_cons_succ, i64_w, i32_w]
      rfl
     refine pure_ (i := 10) (N := some 38) (v := undef) (a' := ?_) #[true, true, true, true, true, true, true, true, true, true, true, false] rfl rfl (any_of rfl (by kernel_rfl)) (fun _ _ _ h => h) (Or.inr ⟨by rfl, rfl⟩) ?_ ?_
     rotate_left
     ·simp only [Act.put, List.setIfInBounds_toArray, List.set_cons_zero, List.set_cons_succ, i64_w, i32_w]
      rfl
     refine pure_ (i := 11) (N := some 39) (v := ?_) (a' := ?_) #[true, true, true, true, true, true, true, true, true, true, true, true] rfl rfl (any_of rfl (by kernel_rfl)) (fun _ _ _ h => h) (Or.inl ⟨by rfl, ?_⟩) ?_ ?_
     rotate_left
     ·intro w'
      go_simp
      with_reducible rfl
     rotate_left
     ·simp only [Act.put, List.setIfInBounds_toArray, List.set_cons_zero, List.set_cons_succ, i64_w, i32_w]
      rfl
     refine done_ (done_of rfl (by kernel_rfl)) ?_
     have hfk : Kd.FK k30 w4 okI x [.int .u8 x.f0, .int .i64 x.f1, .slice A2 x.f2.length c2, .slice A3 x.f3.length c3, .slice A4 x.f4.length c4] := k30_mkF w4 okI x l2 (Kd.F_below F2.out HB.out) l3 (Kd.F_below F3.out HB.out) l4 (Kd.F_below F4.out HB.out)
     have HFK := Aside0.mk hfk
     have x0 : w4.cell? ⟨bx, 0, none⟩ = some (.int .u8 x.f0) := (blk_cell BX.out 0).trans rfl
     have x1 : w4.cell? ⟨bx, 1, none⟩ = some (.int .i64 x.f1) := (blk_cell BX.out 1).trans rfl
     have x2 : w4.cell? ⟨bx, 2, none⟩ = some (.slice A2 x.f2.length c2) := (blk_cell BX.out 2).trans rfl
     have x3 : w4.cell? ⟨bx, 3, none⟩ = some (.slice A3 x.f3.length c3) := (blk_cell BX.out 3).trans rfl
     have x4 : w4.cell? ⟨bx, 4, none⟩ = some (.slice A4 x.f4.length c4) := (blk_cell BX.out 4).trans rfl
     have hlo : out.length ≤ 100000 := HLEN.out
     clear hfk
     go_wp2_with ((with_reducible refine gate_builtin (b := .append) (xs := #[.tmp 54, .tmp 56]) rfl ?_); at_builtin; refine Kd.N_append k30 (w0 := w) w.heap.size rfl (.tmp 54) (.tmp 56) 23 30 (.agg #[(.int .u8 0), (.int .i64 0), (.slice none 0 0), (.slice none 0 0), (.slice none 0 0)]) 88 rfl Try.underlying23 info30 rfl (by decide) (by omega) (.slice Ao out.length co) out x [.int .u8 x.f0, .int .i64 x.f1, .slice A2 x.f2.length c2, .slice A3 x.f3.length c3, .slice A4 x.f4.length c4] (fun j => okI j ∨ w.heap.size ≤ j) okI rfl rfl HFK.out (okp_N HN.out HOI.out (fun j hj => .inl hj)) (fun j hj => .inr (Nat.le_trans HB.out.size hj)) HN.out HB.out HB.out.size (by omega) ?_; intro v6 w6 hN1 hB1 hg1 hat1; obtain ⟨L6, hL6⟩ : ∃ L_, L_ = out ++ [x] := ⟨_, rfl⟩; rw [← hL6] at hN1; have HL6 := Aside0.mk hL6; clear hL6; obtain ⟨A6, c6, rfl⟩ := Kd.N_slice hN1; have HN6 := Aside0.mk hN1; have HB6 := Aside0.mk hB1; clear hN1 hB1 hg1 hat1)
     go_roundw
     case rel =>
      refine ⟨k + 1, by omega, by go_num, ?_, ?_⟩
      ·rw [HG.out]
      ·rw [HG.out]
       show Aside0 (GI okI w w6 _ (out ++ [x]))
       rw [← HL6.out]
       exact ⟨HB6.out, HN6.out⟩
     case measure => simp [intOf]; omega
    ·obtain ⟨m, o, hm, hom, hgl, hdl, hsets⟩ := last_split out ho
     have hnm : n1 = (m : Int) := by rw [← hn1, hm, w64 _ (by have := HLEN.out; omega)]; omega
     subst hnm
     have q2 : (m : Int) < (out.length : Int) := by omega
     have q3 : (0 : Int) ≤ (m : Int) := Int.natCast_nonneg m
     obtain ⟨gD, capD, hvD, hgb, hgl2, cellsD, hcD⟩ := Kd.N_form HN.out (by omega)
     injection hvD with hA1 hlen_ hc1
     clear hlen_
     subst hA1
     subst hc1
     obtain ⟨ce, hcl, hFK, hcc, hfr⟩ := Kd.N_elem HN.out z30 (m : Int) (by omega) (by omega)
     have hgetD : out.getD (m : Int).toNat z30 = o := by rw [Int.toNat_natCast, List.getD_eq_getElem?_getD, hom]; rfl
     rw [hgetD] at hFK
     obtain ⟨B2, d2, B3, d3, B4, d4, rfl, m2, G2, m3, G3, m4, G4⟩ := k30_openF hFK
     have z3 : w3.cell? ⟨gD, m * 5 + 3, none⟩ = some (.slice B3 o.f3.length d3) := hcc 3 _ rfl
     have Z3 := Aside0.mk z3
     have BD := Aside0.mk hcD
     have G2_ := Aside0.mk G2
     have G3_ := Aside0.mk (Kd.F_now G3)
     have HCC := Aside0.mk hcc
     have HGL := Aside0.mk hgl
     have HSETS := Aside0.mk hsets
     have HDL := Aside0.mk hdl
     have HOM := Aside0.mk hom
     have HM := Aside0.mk hm
     have hx3 : w3.cell? ⟨bx, 3, none⟩ = some (.slice A3 x.f3.length c3) := (blk_cell BX.out 3).trans rfl
     clear hcD hFK hcc hgetD G2 G3 G4 hgl hsets hdl hom hm hfr hn1 z3
     refine start_ (n := 12) (S := fun w' => w'.cell? ⟨gD, m * 5 + 3, none⟩ = some (.slice B3 o.f3.length d3) ∧ w'.cell? ⟨bx, 3, none⟩ = some (.slice A3 x.f3.length c3)) (ds := []) #[false, false, false, false, false, false, false, false, false, false, false, false] (by kernel_rfl) rfl rfl ⟨(show w3.drew.cell? _ = _ from Z3.out), hx3⟩ (fun hHeld => ?_)
     have hb := below_drew (Below.refl w3.heap.size w3)
     have z3 := Z3.out
     replace Z3 := Aside0.mk ((hb.cell (World.block_lt_of_cell? _ _ z3)).trans z3)
     have C3b := Aside0.mk (Kd.C_below G3_.out hb)
     generalize w3.drew = w4 at hb hHeld Z3 C3b ⊢
     replace HB := Aside0.mk (below_step HB.out hb)
     replace HN := Aside0.mk (Kd.N_below HN.out hb)
     replace BX := Aside0.mk (blk_below BX.out hb)
     clear hb z3 hx3
     refine pure_ (i := 0) (N := some 28) (v := ?_) (a' := ?_) #[true, false, false, false, false, false, false, false, false, false, false, false] rfl rfl (any_of rfl (by kernel_rfl)) (fun _ _ _ h => h) (Or.inl ⟨by rfl, ?_⟩) ?_ ?_
     rotate_left
     ·intro w'
      go_simp
      with_reducible rfl
     rotate_left
     ·simp only [Act.put, List.setIfInBounds_toArray, List.set_cons_zero, List.set_cons_succ, i64_w, i32_w]
      rfl
     refine pure_ (i := 1) (N := some 29) (v := ?_) (a' := ?_) #[true, true, false, false, false, false, false, false, false, false, false, false] rfl rfl (any_of rfl (by kernel_rfl)) (fun _ _ _ h => h) (Or.inl ⟨by rfl, ?_⟩) ?_ ?_
     rotate_left
     ·intro w'
      go_simp
      with_reducible rfl
     rotate_left
     ·simp only [Act.put, List.setIfInBounds_toArray, List.set_cons_zero, List.set_cons_succ, i64_w, i32_w]
      rfl
     refine pure_ (i := 2) (N := some 30) (v := ?_) (a' := ?_) #[true, true, true, false, false, false, false, false, false, false, false, false] rfl rfl (any_of rfl (by kernel_rfl)) (fun _ _ _ h => h) (Or.inl ⟨by rfl, ?_⟩) ?_ ?_
     rotate_left
     ·intro w'
      go_simp
      with_reducible rfl
     rotate_left
     ·simp only [Act.put, List.setIfInBounds_toArray, List.set_cons_zero, List.set_cons_succ, i64_w, i32_w]
      rfl
     refine pure_ (i := 3) (N := some 31) (v := ?_) (a' := ?_) #[true, true, true, true, false, false, false, false, false, false, false, false] rfl rfl (any_of rfl (by kernel_rfl)) (fun _ _ _ h => h) (Or.inl ⟨by rfl, ?_⟩) ?_ ?_
     rotate_left
     ·intro w'
      go_simp
      with_reducible rfl
     rotate_left
     ·simp only [Act.put, List.setIfInBounds_toArray, List.set_cons_zero, List.set_cons_succ, i64_w, i32_w]
      rfl
     refine pure_ (i := 4) (N := some 32) (v := ?_) (a' := ?_) #[true, true, true, true, true, false, false, false, false, false, false, false] rfl rfl (any_of rfl (by kernel_rfl)) (fun _ _ _ h => h) (Or.inl ⟨by rfl, ?_⟩) ?_ ?_
     rotate_left
     ·intro w'
      go_simp
      with_reducible rfl
     rotate_left
     ·simp only [Act.put, List.setIfInBounds_toArray, List.set_cons_zero, List.set_cons_succ, i64_w, i32_w]
      rfl
     refine pure_ (i := 5) (N := some 33) (v := ?_) (a' := ?_) #[true, true, true, true, true, true, false, false, false, false, false, false] rfl rfl (any_of rfl (by kernel_rfl)) (fun _ _ _ h => h) (Or.inl ⟨by rfl, ?_⟩) ?_ ?_
     rotate_left
     ·intro w'
      go_simp
      with_reducible rfl
     rotate_left
     ·simp only [Act.put, List.setIfInBounds_toArray, List.set_cons_zero, List.set_cons_succ, i64_w, i32_w]
      rfl
     refine pure_ (i := 6) (N := some 34) (v := ?_) (a' := ?_) #[true, true, true, true, true, true, true, false, false, false, false, false] rfl rfl (any_of rfl (by kernel_rfl)) (fun _ _ _ h => h) (Or.inl ⟨by rfl, ?_⟩) ?_ ?_
     rotate_left
     ·intro w'
      go_simp
      with_reducible rfl
     rotate_left
     ·simp only [Act.put, List.setIfInBounds_toArray, List.set_cons_zero, List.set_cons_succ, i64_w, i32_w]
      rfl
     refine take_ (i := 7) (N := some 35) (v := ?_) (a' := ?_) #[true, true, true, true, true, true, true, true, false, false, false, false] rfl rfl (take_of rfl (by kernel_rfl)) (fun _ _ _ h => h) (Or.inl ⟨by rfl, ?_⟩) hHeld ?_ ?_
     rotate_left
     ·rintro w' ⟨s0, s1⟩
      go_simp
      with_reducible rfl
     rotate_left
     ·simp only [Act.put, List.setIfInBounds_toArray, List.set_cons_zero, List.set_cons_succ, i64_w, i32_w]
      rfl
     refine pure_ (i := 8) (N := some 36) (v := ?_) (a' := ?_) #[true, true, true, true, true, true, true, true, true, false, false, false] rfl rfl (any_of rfl (by kernel_rfl)) (fun _ _ _ h => h) (Or.inl ⟨by rfl, ?_⟩) ?_ ?_
     rotate_left
     ·intro w'
      go_simp
      with_reducible rfl
     rotate_left
     ·simp only [Act.put, List.setIfInBounds_toArray, List.set_cons_zero, List.set_cons_succ, i64_w, i32_w]
      rfl
     refine take_ (i := 9) (N := some 37) (v := ?_) (a' := ?_) #[true, true, true, true, true, true, true, true, true, true, false, false] rfl rfl (take_of rfl (by kernel_rfl)) (fun _ _ _ h => h) (Or.inl ⟨by rfl, ?_⟩) hHeld ?_ ?_
     rotate_left
     ·rintro w' ⟨s0, s1⟩
      go_simp
      with_reducible rfl
     rotate_left
     ·simp only [Act.put, List.setIfInBounds_toArray, List.set_cons_zero, List.set_cons_succ, i64_w, i32_w]
      rfl
     refine one_ (i := 10) (N := some 38) #[true, true, true, true, true, true, true, true, true, true, true, false] rfl rfl (one_of rfl (by kernel_rfl)) (by decide) (fun K hK => ?_)
     refine goes_ Try.func32 (by kernel_rfl) rfl #[.slice B3 o.f3.length d3, .slice A3 x.f3.length c3] (by rfl) rfl rfl (by (try simp only [List.map_toArray, List.map_cons, List.map_nil]); first | done | rfl) ?_
     refine (refA_calls B3 d3 o.f3 A3 c3 x.f3 w4 C3b.out m3 (Kd.C_below C3.out HB.out) l3).mono ?_
     rintro e w5 ⟨rfl, hb⟩
     have z3 := Z3.out
     have hS5 : w5.cell? ⟨gD, m * 5 + 3, none⟩ = some (.slice B3 o.f3.length d3) ∧ w5.cell? ⟨bx, 3, none⟩ = some (.slice A3 x.f3.length c3) := ⟨(hb.cell (World.block_lt_of_cell? _ _ z3)).trans z3, (blk_cell (blk_below BX.out hb) 3).trans rfl⟩
     replace HB := Aside0.mk (below_step HB.out hb)
     replace HN := Aside0.mk (Kd.N_below HN.out hb)
     replace BX := Aside0.mk (blk_below BX.out hb)
     obtain ⟨b3, hb3⟩ : ∃ b, eqB (keyA o.f3) (keyA x.f3) = b := ⟨_, rfl⟩
     rw [hb3]
     clear hb z3
     refine ⟨_, rfl, ?_⟩
     refine hK.out _ _ hS5 (fun hHeld => ?_)
     clear hK K
     refine norm_ (a' := ?_) ?_ ?_
     rotate_left
     ·show Act.put _ (some 38) _ = _
      simp only [Act.put, List.setIfInBounds_toArray, List.set_cons_zero, List.set_cons_succ, i64_w, i32_w]
      rfl
     refine pure_ (i := 11) (N := some 39) (v := ?_) (a' := ?_) #[true, true, true, true, true, true, true, true, true, true, true, true] rfl rfl (any_of rfl (by kernel_rfl)) (fun _ _ _ h => h) (Or.inl ⟨by rfl, ?_⟩) ?_ ?_
     rotate_left
     ·intro w'
      go_simp
      with_reducible rfl
     rotate_left
     ·simp only [Act.put, List.setIfInBounds_toArray, List.set_cons_zero, List.set_cons_succ, i64_w, i32_w]
      rfl
     refine done_ (done_of rfl (by kernel_rfl)) ?_
     clear hHeld hS5
     cases b3 with
     | false =>
      have hgs : (l0.take (k + 1)).foldl gstep ([], 0) = (out ++ [x], g) := by
       rw [HST.out]; unfold gstep; rw [if_neg h3]; simp only [HGL.out]; rw [if_neg (eqB_false.1 hb3)]
      have HG := Aside0.mk hgs
      clear hgs hb3
      have hfk : Kd.FK k30 w5 okI x [.int .u8 x.f0, .int .i64 x.f1, .slice A2 x.f2.length c2, .slice A3 x.f3.length c3, .slice A4 x.f4.length c4] := k30_mkF w5 okI x l2 (Kd.F_below F2.out HB.out) l3 (Kd.F_below F3.out HB.out) l4 (Kd.F_below F4.out HB.out)
      have HFK := Aside0.mk hfk
      have x0 : w5.cell? ⟨bx, 0, none⟩ = some (.int .u8 x.f0) := (blk_cell BX.out 0).trans rfl
      have x1 : w5.cell? ⟨bx, 1, none⟩ = some (.int .i64 x.f1) := (blk_cell BX.out 1).trans rfl
      have x2 : w5.cell? ⟨bx, 2, none⟩ = some (.slice A2 x.f2.length c2) := (blk_cell BX.out 2).trans rfl
      have x3 : w5.cell? ⟨bx, 3, none⟩ = some (.slice A3 x.f3.length c3) := (blk_cell BX.out 3).trans rfl
      have x4 : w5.cell? ⟨bx, 4, none⟩ = some (.slice A4 x.f4.length c4) := (blk_cell BX.out 4).trans rfl
      have hlo : out.length ≤ 100000 := HLEN.out
      clear hfk
      go_wp2_with ((with_reducible refine gate_builtin (b := .append) (xs := #[.tmp 54, .tmp 56]) rfl ?_); at_builtin; refine Kd.N_append k30 (w0 := w) w.heap.size rfl (.tmp 54) (.tmp 56) 23 30 (.agg #[(.int .u8 0), (.int .i64 0), (.slice none 0 0), (.slice none 0 0), (.slice none 0 0)]) 88 rfl Try.underlying23 info30 rfl (by decide) (by omega) (.slice (some ⟨gD, 0, none⟩) out.length co) out x [.int .u8 x.f0, .int .i64 x.f1, .slice A2 x.f2.length c2, .slice A3 x.f3.length c3, .slice A4 x.f4.length c4] (fun j => okI j ∨ w.heap.size ≤ j) okI rfl rfl HFK.out (okp_N HN.out HOI.out (fun j hj => .inl hj)) (fun j hj => .inr (Nat.le_trans HB.out.size hj)) HN.out HB.out HB.out.size (by omega) ?_; intro v6 w6 hN1 hB1 hg1 hat1; obtain ⟨L6, hL6⟩ : ∃ L_, L_ = out ++ [x] := ⟨_, rfl⟩; rw [← hL6] at hN1; have HL6 := Aside0.mk hL6; clear hL6; obtain ⟨A6, c6, rfl⟩ := Kd.N_slice hN1; have HN6 := Aside0.mk hN1; have HB6 := Aside0.mk hB1; clear hN1 hB1 hg1 hat1)
      go_roundw
      case rel =>
       refine ⟨k + 1, by omega, by go_num, ?_, ?_⟩
       ·rw [HG.out]
       ·rw [HG.out]
        show Aside0 (GI okI w w6 _ (out ++ [x]))
        rw [← HL6.out]
        exact ⟨HB6.out, HN6.out⟩
      case measure => simp [intOf]; omega
     | true =>
      have hgs : (l0.take (k + 1)).foldl gstep ([], 0) = (out.dropLast ++ [⟨o.f0, o.f1, o.f2 ++ x.f2, o.f3, o.f4⟩], g) := by
       rw [HST.out]; unfold gstep; rw [if_neg h3]; simp only [HGL.out]; rw [if_pos (eqB_true.1 hb3)]
      have HG := Aside0.mk hgs
      have hf2o : o.f2.length ≤ 100000 := HF2.out o (List.mem_of_getElem? HOM.out)
      have hf2x : x.f2.length ≤ 100000 := HX2.out
      obtain ⟨ce, hcl, hFK, hcc, hfr⟩ := Kd.N_elem HN.out z30 (m : Int) (by omega) (by omega)
      have hgetD : out.getD (m : Int).toNat z30 = o := by rw [Int.toNat_natCast, List.getD_eq_getElem?_getD, HOM.out]; rfl
      rw [hgetD] at hFK
      obtain ⟨E2, b2, E3, b3, E4, b4, rfl, n2, H2, n3, H3, n4, H4⟩ := k30_openF hFK
      have zz := (hcc 2 _ rfl : w5.cell? ⟨gD, m * 5 + 2, none⟩ = some (.slice E2 o.f2.length b2))
      have ZZ := Aside0.mk zz
      have CO := Aside0.mk (Kd.F_now H2)
      have xx : w5.cell? ⟨bx, 2, none⟩ = some (.slice A2 x.f2.length c2) := (blk_cell BX.out 2).trans rfl
      have gGD : gD < w5.heap.size := World.block_lt_of_cell? w5 _ zz
      have GGD := Aside0.mk gGD
      clear hgs hb3 hcl hFK hcc hfr hgetD H2 H3 H4 zz gGD n3 n4
      go_upto_region 11 with (fail)
      have EW : Aside0 (∀ W', Below w5.heap.size w5 W' → W'.cell? ⟨gD, m * 5 + 2, none⟩ = some (.slice E2 o.f2.length b2) ∧ W'.cell? ⟨bx, 2, none⟩ = some (.slice A2 x.f2.length c2)) := ⟨fun W' hb => ⟨(hb.cell (World.block_lt_of_cell? _ _ ZZ.out)).trans ZZ.out, (hb.cell (World.block_lt_of_cell? _ _ xx)).trans xx⟩⟩
      refine start_ (n := 15) (S := fun w' => w'.cell? ⟨gD, m * 5 + 2, none⟩ = some (.slice E2 o.f2.length b2) ∧ w'.cell? ⟨bx, 2, none⟩ = some (.slice A2 x.f2.length c2)) (ds := [14]) #[false, false, false, false, false, false, false, false, false, false, false, false, false, false, false] (by kernel_rfl) rfl rfl (EW.out _ (below_drew (Below.refl w5.heap.size w5))) (fun hHeld => ?_)
      have hb := below_drew (Below.refl w5.heap.size w5)
      generalize w5.drew = w6 at hb hHeld ⊢
      have B6 := Aside0.mk hb
      clear hb xx
      refine pure_ (i := 0) (N := some 40) (v := ?_) (a' := ?_) #[true, false, false, false, false, false, false, false, false, false, false, false, false, false, false] rfl rfl (any_of rfl (by kernel_rfl)) (fun _ _ _ h => h) (Or.inl ⟨by rfl, ?_⟩) ?_ ?_
      rotate_left
      ·intro w'
       go_simp
       with_reducible rfl
      rotate_left
      ·simp only [Act.put, List.setIfInBounds_toArray, List.set_cons_zero, List.set_cons_succ, i64_w, i32_w]
       rfl
      refine pure_ (i := 1) (N := some 41) (v := ?_) (a' := ?_) #[true, true, false, false, false, false, false, false, false, false, false, false, false, false, false] rfl rfl (any_of rfl (by kernel_rfl)) (fun _ _ _ h => h) (Or.inl ⟨by rfl, ?_⟩) ?_ ?_
      rotate_left
      ·intro w'
       go_simp
       with_reducible rfl
      rotate_left
      ·simp only [Act.put, List.setIfInBounds_toArray, List.set_cons_zero, List.set_cons_succ, i64_w, i32_w]
       rfl
      refine pure_ (i := 3) (N := some 43) (v := ?_) (a' := ?_) #[true, true, false, true, false, false, false, false, false, false, false, false, false, false, false] rfl rfl (any_of rfl (by kernel_rfl)) (fun _ _ _ h => h) (Or.inl ⟨by rfl, ?_⟩) ?_ ?_
      rotate_left
      ·intro w'
       go_simp
       with_reducible rfl
      rotate_left
      ·simp only [Act.put, List.setIfInBounds_toArray, List.set_cons_zero, List.set_cons_succ, i64_w, i32_w]
       rfl
      refine pure_ (i := 4) (N := some 44) (v := ?_) (a' := ?_) #[true, true, false, true, true, false, false, false, false, false, false, false, false, false, false] rfl rfl (any_of rfl (by kernel_rfl)) (fun _ _ _ h => h) (Or.inl ⟨by rfl, ?_⟩) ?_ ?_
      rotate_left
      ·intro w'
       go_simp
       with_reducible rfl
      rotate_left
      ·simp only [Act.put, List.setIfInBounds_toArray, List.set_cons_zero, List.set_cons_succ, i64_w, i32_w]
       rfl
      refine pure_ (i := 5) (N := some 45) (v := ?_) (a' := ?_) #[true, true, false, true, true, true, false, false, false, false, false, false, false, false, false] rfl rfl (any_of rfl (by kernel_rfl)) (fun _ _ _ h => h) (Or.inl ⟨by rfl, ?_⟩) ?_ ?_
      rotate_left
      ·intro w'
       go_simp
       with_reducible rfl
      rotate_left
      ·simp only [Act.put, List.setIfInBounds_toArray, List.set_cons_zero, List.set_cons_succ, i64_w, i32_w]
       rfl
      refine pure_ (i := 6) (N := some 46) (v := ?_) (a' := ?_) #[true, true, false, true, true, true, true, false, false, false, false, false, false, false, false] rfl rfl (any_of rfl (by kernel_rfl)) (fun _ _ _ h => h) (Or.inl ⟨by rfl, ?_⟩) ?_ ?_
      rotate_left
      ·intro w'
       go_simp
       with_reducible rfl
      rotate_left
      ·simp only [Act.put, List.setIfInBounds_toArray, List.set_cons_zero, List.set_cons_succ, i64_w, i32_w]
       rfl
      refine pure_ (i := 9) (N := some 49) (v := ?_) (a' := ?_) #[true, true, false, true, true, true, true, false, false, true, false, false, false, false, false] rfl rfl (any_of rfl (by kernel_rfl)) (fun _ _ _ h => h) (Or.inl ⟨by rfl, ?_⟩) ?_ ?_
      rotate_left
      ·intro w'
       go_simp
       with_reducible rfl
      rotate_left
      ·simp only [Act.put, List.setIfInBounds_toArray, List.set_cons_zero, List.set_cons_succ, i64_w, i32_w]
       rfl
      refine take_ (i := 7) (N := some 47) (v := ?_) (a' := ?_) #[true, true, false, true, true, true, true, true, false, true, false, false, false, false, false] rfl rfl (take_of rfl (by kernel_rfl)) (fun _ _ _ h => h) (Or.inl ⟨by rfl, ?_⟩) hHeld ?_ ?_
      rotate_left
      ·rintro w' ⟨s0, s1⟩
       go_simp
       with_reducible rfl
      rotate_left
      ·simp only [Act.put, List.setIfInBounds_toArray, List.set_cons_zero, List.set_cons_succ, i64_w, i32_w]
       rfl
      refine take_ (i := 10) (N := some 50) (v := ?_) (a' := ?_) #[true, true, false, true, true, true, true, true, false, true, true, false, false, false, false] rfl rfl (take_of rfl (by kernel_rfl)) (fun _ _ _ h => h) (Or.inl ⟨by rfl, ?_⟩) hHeld ?_ ?_
      rotate_left
      ·rintro w' ⟨s0, s1⟩
       go_simp
       with_reducible rfl
      rotate_left
      ·simp only [Act.put, List.setIfInBounds_toArray, List.set_cons_zero, List.set_cons_succ, i64_w, i32_w]
       rfl
      refine one_ (i := 2) (N := some 42) #[true, true, true, true, true, true, true, true, false, true, true, false, false, false, false] rfl rfl (one_of rfl (by kernel_rfl)) (by decide) (fun K hK => ?_)
      refine Kd.R_lit_step (Kd.int .i32) _ 21 ?hg (N := 42) ?hd (xs := ([] : List Int)) (inner := []) (ok := fun _ => True) (okp := fun _ => True) ?hr ?hp (fun _ hk => hk) trivial (Below.refl _ _) (Nat.le_refl _) (by simp) ?_; (case hd => rfl); (case hg => rfl); (case hr => first | (go_simp; done) | (go_simp; rfl)); (case hp => exact (Reps.none _ _))
      intro v7 w7 ho hb hg_ hnew_
      have HV7 := Aside0.mk ho
      have B67 := Aside0.mk hb
      have B7 := Aside0.mk (below_then B6.out B6.out.size hb)
      clear ho hb hg_ hnew_
      refine hK.out _ _ (EW.out _ B7.out) (fun hHeld => ?_)
      clear hK K
      refine norm_ (a' := ?_) ?_ ?_
      rotate_left
      ·show Act.put _ (some 42) _ = _
       simp only [Act.put, List.setIfInBounds_toArray, List.set_cons_zero, List.set_cons_succ, i64_w, i32_w]
       rfl
      refine one_ (i := 8) (N := some 48) #[true, true, true, true, true, true, true, true, true, true, true, false, false, false, false] rfl rfl (one_of rfl (by kernel_rfl)) (by decide) (fun K hK => ?_)
      refine Kd.R_append_rows_step (Kd.int .i32) (w0 := w6) w6.heap.size (by rfl) (.tmp 42) (.tmp 47) 26 21 (.int .i32 0) 4 rfl Try.underlying26 info21 rfl (by decide) (by omega) v7 [] o.f2 E2 o.f2.length b2 (fun _ => True) (fun _ => False) rfl rfl HV7.out (Kd.C_below CO.out B7.out) (fun _ _ h => h) (fun _ h => h.elim) (fun _ _ => trivial) B67.out B67.out.size (by simp only [List.length_nil]; omega) ?_
      intro v8 w8 ho hb hg hat
      rw [List.nil_append] at ho
      have HV8 := Aside0.mk ho
      have B68 := Aside0.mk hb
      have B8 := Aside0.mk (below_then B6.out B6.out.size hb)
      clear ho hb hg hat
      refine hK.out _ _ (EW.out _ B8.out) (fun hHeld => ?_)
      clear hK K
      refine norm_ (a' := ?_) ?_ ?_
      rotate_left
      ·show Act.put _ (some 48) _ = _
       simp only [Act.put, List.setIfInBounds_toArray, List.set_cons_zero, List.set_cons_succ, i64_w, i32_w]
       rfl
      refine one_ (i := 11) (N := some 51) #[true, true, true, true, true, true, true, true, true, true, true, true, false, false, false] rfl rfl (one_of rfl (by kernel_rfl)) (by decide) (fun K hK => ?_)
      refine Kd.R_append_rows_step (Kd.int .i32) (w0 := w6) w6.heap.size (by rfl) (.tmp 48) (.tmp 50) 26 21 (.int .i32 0) 4 rfl Try.underlying26 info21 rfl (by decide) (by omega) v8 o.f2 x.f2 A2 x.f2.length c2 (fun _ => True) (fun _ => False) rfl rfl HV8.out (Kd.C_below C2.out (below_step HB.out B8.out)) (fun _ _ h => h) (fun _ h => h.elim) (fun _ _ => trivial) B68.out B68.out.size (by omega) ?_
      intro v9 w9 ho hb hg hat
      obtain ⟨L9, hL9⟩ : ∃ L_, L_ = o.f2 ++ x.f2 := ⟨_, rfl⟩
      rw [← hL9] at ho
      have HL9 := Aside0.mk hL9
      clear hL9
      obtain ⟨A9, c9, rfl⟩ := Kd.R_slice ho
      have HV9 := Aside0.mk ho
      have B69 := Aside0.mk hb
      have B9 := Aside0.mk (below_then B6.out B6.out.size hb)
      have HN9 := Aside0.mk (Kd.N_below HN.out B9.out)
      clear ho hb hg hat
      refine hK.out _ _ (EW.out _ B9.out) (fun hHeld => ?_)
      clear hK K
      refine norm_ (a' := ?_) ?_ ?_
      rotate_left
      ·show Act.put _ (some 51) _ = _
       simp only [Act.put, List.setIfInBounds_toArray, List.set_cons_zero, List.set_cons_succ, i64_w, i32_w]
       rfl
      refine pure_ (i := 12) (N := some 52) (v := ?_) (a' := ?_) #[true, true, true, true, true, true, true, true, true, true, true, true, true, false, false] rfl rfl (any_of rfl (by kernel_rfl)) (fun _ _ _ h => h) (Or.inl ⟨by rfl, ?_⟩) ?_ ?_
      rotate_left
      ·intro w'
       go_simp
       with_reducible rfl
      rotate_left
      ·simp only [Act.put, List.setIfInBounds_toArray, List.set_cons_zero, List.set_cons_succ, i64_w, i32_w]
       rfl
      refine pure_ (i := 13) (N := some 53) (v := ?_) (a' := ?_) #[true, true, true, true, true, true, true, true, true, true, true, true, true, true, false] rfl rfl (any_of rfl (by kernel_rfl)) (fun _ _ _ h => h) (Or.inl ⟨by rfl, ?_⟩) ?_ ?_
      rotate_left
      ·intro w'
       go_simp
       with_reducible rfl
      rotate_left
      ·simp only [Act.put, List.setIfInBounds_toArray, List.set_cons_zero, List.set_cons_succ, i64_w, i32_w]
       rfl
      obtain ⟨ce, hcl, hFK, hcc, hfr⟩ := Kd.N_elem HN9.out z30 (m : Int) (by omega) (by omega)
      have hgetD : out.getD (m : Int).toNat z30 = o := by rw [Int.toNat_natCast, List.getD_eq_getElem?_getD, HOM.out]; rfl
      rw [hgetD] at hFK
      obtain ⟨J2, j2, J3, j3, J4, j4, rfl, i2, K2, i3, K3, i4, K4⟩ := k30_openF hFK
      have fz := (hfr 2 : w9.frozen? ⟨gD, m * 5 + 2, none⟩ = false)
      have hF9 : Kd.F (Kd.int .i32) w9 (fun k => (okI k ∨ w.heap.size ≤ k) ∧ k ≠ gD) A9 L9.length L9 := Kd.F_mono (Kd.R_F (Kd.R_mono (Kd.R_bound HV9.out) (fun k hk => (hk.2.1 : w6.heap.size ≤ k)))) (fun k hk => ⟨.inr (Nat.le_trans HB.out.size (Nat.le_trans B6.out.size hk)), fun e_ => by have := GGD.out; have := B6.out.size; omega⟩)
      have hS9 := Kd.N_seg HN9.out (m : Int) (by omega) (by omega) hcl hcc (seg := [.slice A9 L9.length c9]) (j := 2) (show 2 + 1 ≤ 5 from by decide) (x' := (⟨o.f0, o.f1, L9, o.f3, o.f4⟩ : S30)) (k30_mkF w9 (fun k => (okI k ∨ w.heap.size ≤ k) ∧ k ≠ gD) (⟨o.f0, o.f1, L9, o.f3, o.f4⟩ : S30) (Kd.R_reads' HV9.out).2.1 hF9 i3 K3 i4 K4) (fun _ hk => hk)
      have HS9 := Aside0.mk hS9.1
      have zz9 := (EW.out _ B9.out).1
      clear hS9 hF9 hcl hFK hcc hfr hgetD K2 K3 K4
      refine last_ (i := 14) (N := none) #[true, true, true, true, true, true, true, true, true, true, true, true, true, true, true] rfl rfl (one_of rfl (by kernel_rfl)) (by decide) (fun K hK => ?_)
      refine skip_ (w1 := w9.setCell ⟨gD, m * 5 + 2, none⟩ (.slice A9 L9.length c9)) (by rfl) rfl ?_ ?_
      ·go_simp
       all_goals first | rfl | exact fz
      refine hK.out _ _ ?_
      clear hK K
      refine done_ (done_of rfl (by kernel_rfl)) ?_
      have hnew : GI okI w (w9.setCell ⟨gD, m * 5 + 2, none⟩ (.slice A9 L9.length c9)) (.slice (some ⟨gD, 0, none⟩) out.length co) (out.dropLast ++ [⟨o.f0, o.f1, o.f2 ++ x.f2, o.f3, o.f4⟩]) := by
       have h_ := HS9.out
       rw [← HSETS.out, ← HL9.out]
       exact ⟨(below_step HB.out B9.out).setCell (p := ⟨gD, m * 5 + 2, none⟩) hgb _, h_⟩
      have HNEW := Aside0.mk hnew
      clear hnew zz9 fz
      go_wp2_with fail
      go_roundw
      case rel =>
       refine ⟨k + 1, by omega, by go_num, ?_, ?_⟩
       ·rw [HG.out]
       ·rw [HG.out]; exact HNEW
      case measure => simp [intOf]; omega
  ·obtain rfl : k = l0.length := by omega
   rw [List.take_length] at HI
   have hlen := gfold_len l0 ([], 0)
   have HLEN : Aside0 ((l0.foldl gstep ([], 0)).1.length ≤ 100000) := ⟨by simp only [List.length_nil] at hlen; omega⟩
   clear hlen
   have hgR : gapR l0 = gapP (l0.foldl gstep ([], 0)).1 (l0.foldl gstep ([], 0)).2 := rfl
   have HGR := Aside0.mk hgR
   clear hgR
   rw [List.take_length]
   generalize l0.foldl gstep ([], 0) = s at HI HLEN HGR ⊢
   obtain ⟨out, g⟩ := s
   replace HLEN : Aside0 (out.length ≤ 100000) := HLEN
   obtain ⟨hB, hN⟩ := HI.out
   replace hN : Kd.N k30 30 wr w.heap.size (fun j => okI j ∨ w.heap.size ≤ j) _ out := hN
   obtain ⟨Ao, co, rfl⟩ := Kd.N_slice hN
   have HN := Aside0.mk hN
   have HB := Aside0.mk hB
   clear hB hN HI
   by_cases hg : 0 < g
   ·have hgb : decide (0 < g) = true := decide_eq_true hg
    have hlo : out.length ≤ 100000 := HLEN.out
    go_wp2_with ((with_reducible refine gate_builtin (b := .append) (xs := #[.tmp 60, .tmp 63]) rfl ?_); at_builtin; refine Kd.N_append k30 (w0 := w) w.heap.size rfl (.tmp 60) (.tmp 63) 23 30 (.agg #[(.int .u8 0), (.int .i64 0), (.slice none 0 0), (.slice none 0 0), (.slice none 0 0)]) 88 rfl Try.underlying23 info30 rfl (by decide) (by omega) (.slice Ao out.length co) out (delO g) [.int .u8 3, .int .i64 g, .slice none 0 0, .slice none 0 0, .slice none 0 0] (fun j => okI j ∨ w.heap.size ≤ j) (fun _ => False) rfl rfl (op3_FK _ _ _ _) (fun _ hk => hk.elim) (fun j hj => .inr (Nat.le_trans HB.out.size hj)) HN.out HB.out HB.out.size (by omega) ?_; intro v6 w6 hN1 hB1 hg1 hat1; have HN6 := Aside0.mk hN1; have HB6 := Aside0.mk hB1; clear hN1 hB1 hg1 hat1)
    go_ret
    refine ⟨_, rfl, ?_, HB6.out⟩
    rw [HGR.out]
    simp only
    rw [gapP_pos out g hg]
    exact HN6.out
   ·have hgb : decide (0 < g) = false := decide_eq_false hg
    go_wp2_with fail
    go_ret
    refine ⟨_, rfl, ?_, HB.out⟩
    rw [HGR.out]
    simp only [gapP]
    rw [if_neg (show ¬ g > 0 from by omega)]
    exact HN.out
end Go.Proofs.Ytmjeoknamoegpaa.P
namespace Go.Proofs.Ytmjeoknamoegpaa.P
open Go.RowKit Go.Proofs.YtmjeoknamoegpaaW.PrintWords Go.Proofs.YtmjeoknamoegpaaW.PrintLast Go.Proofs.YtmjeoknamoegpaaW.PrintMore
set_option linter.unusedVariables false
set_option linter.unusedSimpArgs false
theorem addr_add (a : Addr) (i j : Nat) : (a.add i).add j = a.add (i + j) := by
 unfold Addr.add
 by_cases h1 : i = 0 <;> by_cases h2 : j = 0 <;> simp [h1, h2, Nat.add_assoc]
theorem seg_C {w : World} {A : Option Addr} {l : List S30} {c lo hi : Nat} (h : k30.C w A l.length l) (h1 : lo ≤ hi) (h2 : hi ≤ l.length) (hc : l.length ≤ c) : k30.C w (if c = lo then A else A.map (·.add (lo * 5))) ((l.take hi).drop lo).length ((l.take hi).drop lo) := by
 have hl : ((l.take hi).drop lo).length = hi - lo := by rw [List.length_drop, List.length_take]; omega
 refine ⟨rfl, by rw [hl]; have := h.2.1; omega, fun hp => ?_⟩
 rw [hl] at hp
 obtain ⟨ad, rfl, hcell⟩ := h.2.2 (by omega)
 rw [if_neg (by omega)]
 refine ⟨ad.add (lo * 5), rfl, fun j p hj => ?_⟩
 rw [List.getElem?_drop, List.getElem?_take] at hj
 split at hj
 ·obtain ⟨cs, a1, a2, a3⟩ := hcell (lo + j) p hj
  refine ⟨cs, a1, a2, fun i u hu => ?_⟩
  rw [addr_add, show lo * 5 + (j * k30.sz + i) = (lo + j) * k30.sz + i from by show lo * 5 + (j * 5 + i) = (lo + j) * 5 + i; omega]
  exact a3 i u hu
 ·cases hj
theorem seg_F {w : World} {ok : Nat → Prop} {A : Option Addr} {l : List S30} {c lo hi : Nat} (h : Kd.F k30 w ok A l.length l) (h1 : lo ≤ hi) (h2 : hi ≤ l.length) (hc : l.length ≤ c) : Kd.F k30 w ok (if c = lo then A else A.map (·.add (lo * 5))) ((l.take hi).drop lo).length ((l.take hi).drop lo) :=
 fun W' hW => seg_C (h W' hW) h1 h2 hc
theorem seg_len {l : List S30} {lo hi : Nat} (h2 : hi ≤ l.length) : ((l.take hi).drop lo).length = hi - lo := by rw [List.length_drop, List.length_take]; omega
theorem seg_tot (l : List S30) (lo hi : Nat) : tot ((l.take hi).drop lo) ≤ tot l := by
 have h1 := tot_take l hi
 have h2 := congrArg tot (List.take_append_drop lo (l.take hi))
 simp only [tot, List.map_append, List.sum_append] at h1 h2 ⊢
 omega
/-- The gap's call, at the slice as the walk spells it. -/
theorem seg_calls {w : World} {okI : Nat → Prop} {A : Option Addr} {l : List S30} {c : Nat} (lo hi : Nat) (hoI : ∀ j, okI j → j < w.heap.size) (h : Kd.F k30 w okI A l.length l) (h1 : lo ≤ hi) (h2 : hi ≤ l.length) (hc : l.length ≤ c) (hl : l.length ≤ 100000) (ht : tot l ≤ 100000) :
  Calls Try.prog 34 #[.slice (if c = lo then A else A.map (·.add (lo * 5))) (hi - lo) (c - lo)] w fun e w' => ∃ v0_ : Value, e = .returned (v0_) ∧ Kd.N k30 30 w' w.heap.size (fun j => okI j ∨ w.heap.size ≤ j) v0_ (gapR ((l.take hi).drop lo)) ∧ Below w.heap.size w w' := by
 have hF := seg_F h h1 h2 hc
 have hn := seg_len (lo := lo) h2
 have ht2 := seg_tot l lo hi
 have hg := gap34_calls okI (if c = lo then A else A.map (·.add (lo * 5))) (c - lo) ((l.take hi).drop lo) w hoI hF (by rw [hn]; omega) (by rw [hn]; omega) (by omega)
 rw [hn] at hg
 exact hg
theorem piece_eq (l : List S30) (f k : Nat) (hf : f ≤ k) (hok : ∀ o ∈ l, OkO o) (h0 : (foldP (l.take f)).2 = ([], 0)) (hn : ∀ j, f ≤ j → j < k → ∀ o, l[j]? = some o → o.f0 ≠ 1) : (foldP (l.take k)).1 = (foldP (l.take f)).1 ∧ gapR ((l.take k).drop f) = gapP (foldP (l.take k)).2.1 (foldP (l.take k)).2.2 := by
 have e : l.take k = l.take f ++ (l.take k).drop f := by
  have h := List.take_append_drop f (l.take k)
  rw [List.take_take, Nat.min_eq_left hf] at h
  exact h.symm
 have hs : foldP (l.take k) = ((l.take k).drop f).foldl stepP (foldP (l.take f)) := by
  unfold foldP
  rw [← List.foldl_append, ← e]
 have hp : foldP (l.take f) = ((foldP (l.take f)).1, [], 0) := Prod.ext rfl h0
 have hg := gfold_eq (foldP (l.take f)).1 ((l.take k).drop f) [] 0 (fun o ho => by
  obtain ⟨j, hj, rfl⟩ := List.getElem_of_mem ho
  have hlt : f + j < k := by rw [List.length_drop, List.length_take] at hj; omega
  have hll : f + j < l.length := by rw [List.length_drop, List.length_take] at hj; omega
  have he : ((l.take k).drop f)[j] = l[f + j] := by rw [List.getElem_drop, List.getElem_take]
  rw [he]
  exact ⟨hok _ (List.getElem_mem hll), hn (f + j) (by omega) hlt _ (List.getElem?_eq_getElem hll)⟩)
 rw [← hp] at hg
 rw [hs, hg]
 exact ⟨rfl, rfl⟩
theorem okp_R {W : World} {base n : Nat} {okI : Nat → Prop} {v : Value} {xs : List S30} (h : Kd.N k30 30 W base (fun _ => True) v xs) (hoI : ∀ j, okI j → j < base) (hn : ∀ j, v.ownBlock = some j → j < n) : ∀ j, (okI j ∨ n ≤ j) → True ∧ some j ≠ v.ownBlock := fun j hj => ⟨trivial, fun e_ => by
 have h1 := Kd.N_base h j e_.symm
 have h2 := hn j e_.symm
 rcases hj with hj | hj
 ·have := hoI j hj; omega
 ·omega⟩
def OI (w wr : World) (v : Value) (l : List S30) (fr k : Nat) : Prop := Below w.heap.size w wr ∧ Kd.N k30 30 wr w.heap.size (fun _ => True) v (foldP (l.take fr)).1 ∧ (foldP (l.take fr)).2 = ([], 0) ∧ ∀ j, fr ≤ j → j < k → ∀ o, l[j]? = some o → o.f0 ≠ 1
set_option maxHeartbeats 4000000 in
set_option maxRecDepth 100000 in
theorem of17 (okI : Nat → Prop) (A0 : Option Addr) (c0 : Nat) (l0 : List S30) (w : World) (hoI : ∀ j, okI j → j < w.heap.size) (hr0 : Kd.F k30 w okI A0 l0.length l0) (hc0 : l0.length ≤ c0) (hl : l0.length ≤ 100000) (ht : tot l0 ≤ 100000) (hok : ∀ o ∈ l0, OkO o) (h34 : ∀ o ∈ l0, o.f3.length ≤ 100000 ∧ o.f4.length ≤ 100000) :
  Calls Try.prog 17 #[.slice A0 l0.length c0] w fun e w' => ∃ v0_ : Value, e = .returned (v0_) ∧ Kd.S k30 30 w' w.heap.size (fun _ => True) v0_ (ofP l0) ∧ Below w.heap.size w w' := by
 have HR := Aside0.mk hr0
 have HT := Aside0.mk ht
 have HOK := Aside0.mk hok
 have HOI := Aside0.mk hoI
 have H34 := Aside0.mk h34
 clear hr0 ht hok hoI h34
 go_enter Try.func17, Try.ntmps17
 go_wp2_with fail
 go_loopw [3, 4, 5] (fun o fr i wr => ∃ f k : Nat, f ≤ k ∧ k ≤ l0.length ∧ i = .int .i64 k ∧ fr = .int .i64 f ∧ Aside0 (OI w wr o l0 f k)) (fun _ _ i _ => l0.length + 1 - (intOf i).toNat)
 case atStart => exact ⟨0, 0, Nat.le_refl _, Nat.zero_le _, rfl, rfl, ⟨Below.refl _ _, Kd.N_nil _ _ _ _ _, rfl, fun j h1 h2 => by omega⟩⟩
 case round =>
  obtain ⟨f, k, hfk, hk, rfl, rfl, HI⟩ := hrel
  have hD : (foldP (l0.take f)).1.length ≤ 300000 := by
   have h := (StOk.fold0 (l0.take f) (fun x hx => H34.out x (List.mem_of_mem_take hx))).1
   rw [List.length_take] at h; omega
  have hG : (gapP (foldP (l0.take k)).2.1 (foldP (l0.take k)).2.2).length ≤ 300000 := by
   have h := (StOk.fold0 (l0.take k) (fun x hx => H34.out x (List.mem_of_mem_take hx))).1
   have h2 := gapP_len (foldP (l0.take k)).2.1 (foldP (l0.take k)).2.2
   rw [List.length_take] at h; omega
  obtain ⟨hB, hN, h0, hnr⟩ := HI.out
  obtain ⟨p1, p2⟩ := piece_eq l0 f k hfk HOK.out h0 hnr
  have HSEG := Aside0.mk (seg_calls f k (fun j hj => Nat.lt_of_lt_of_le (HOI.out j hj) hB.size) (Kd.F_below HR.out hB) hfk hk hc0 hl HT.out)
  have P1 := Aside0.mk p1
  have P2 := Aside0.mk p2
  obtain ⟨Ao, co, rfl⟩ := Kd.N_slice hN
  have HN := Aside0.mk hN
  have HB := Aside0.mk hB
  have hk1 : (k : Int) ≤ (l0.length : Int) := by omega
  have hk1b : decide ((k : Int) ≤ (l0.length : Int)) = true := decide_eq_true hk1
  have q0 : (0 : Int) ≤ (k : Int) := Int.natCast_nonneg k
  have qf : (0 : Int) ≤ (f : Int) := Int.natCast_nonneg f
  have qfk : (f : Int) ≤ (k : Int) := by omega
  clear hB hN h0 hnr p1 p2
  by_cases hlt : k < l0.length
  ·have hcf : ¬ c0 = f := by omega
   rw [if_neg hcf] at HSEG
   have hcfi : ¬ (c0 : Int) = (f : Int) := by omega
   obtain ⟨x, hx⟩ : ∃ x, l0[k]? = some x := ⟨_, List.getElem?_eq_getElem hlt⟩
   have hlti : (k : Int) < (l0.length : Int) := by omega
   have hltb : decide ((k : Int) < (l0.length : Int)) = true := decide_eq_true hlti
   obtain ⟨ad, cx, eA, hcl, hFKx, hcx, _⟩ := Kd.F_get HR.out z30 (k : Int) (by omega) (by omega)
   have hgx : l0.getD (k : Int).toNat z30 = x := by rw [Int.toNat_natCast, List.getD_eq_getElem?_getD, hx]; rfl
   rw [hgx] at hFKx
   obtain ⟨A2, c2, A3, c3, A4, c4, rfl, l2, f2, l3, f3, l4, f4⟩ := k30_openF hFKx
   have e0 := hcx 0 _ rfl
   have e1 := hcx 1 _ rfl
   have e2 := hcx 2 _ rfl
   have e3 := hcx 3 _ rfl
   have e4 := hcx 4 _ rfl
   rw [add_field _ _ 1 (by omega)] at e1
   rw [add_field _ _ 2 (by omega)] at e2
   rw [add_field _ _ 3 (by omega)] at e3
   rw [add_field _ _ 4 (by omega)] at e4
   clear hFKx hcx hcl hgx
   simp only [Int.toNat_natCast, Nat.add_zero] at e0 e1 e2 e3 e4
   replace e0 : w.cell? (ad.add (k * 5)) = some (.int .u8 x.f0) := e0
   replace e1 : w.cell? ⟨(ad.add (k * 5)).block, (ad.add (k * 5)).off + 1, none⟩ = some (.int .i64 x.f1) := e1
   replace e2 : w.cell? ⟨(ad.add (k * 5)).block, (ad.add (k * 5)).off + 2, none⟩ = some (.slice A2 x.f2.length c2) := e2
   replace e3 : w.cell? ⟨(ad.add (k * 5)).block, (ad.add (k * 5)).off + 3, none⟩ = some (.slice A3 x.f3.length c3) := e3
   replace e4 : w.cell? ⟨(ad.add (k * 5)).block, (ad.add (k * 5)).off + 4, none⟩ = some (.slice A4 x.f4.length c4) := e4
   have EW : Aside0 (∀ W, Below w.heap.size w W → W.cell? (ad.add (k * 5)) = some (.int .u8 x.f0) ∧ W.cell? ⟨(ad.add (k * 5)).block, (ad.add (k * 5)).off + 1, none⟩ = some (.int .i64 x.f1) ∧ W.cell? ⟨(ad.add (k * 5)).block, (ad.add (k * 5)).off + 2, none⟩ = some (.slice A2 x.f2.length c2) ∧ W.cell? ⟨(ad.add (k * 5)).block, (ad.add (k * 5)).off + 3, none⟩ = some (.slice A3 x.f3.length c3) ∧ W.cell? ⟨(ad.add (k * 5)).block, (ad.add (k * 5)).off + 4, none⟩ = some (.slice A4 x.f4.length c4)) := ⟨fun W hW => ⟨(hW.cell (World.block_lt_of_cell? _ _ e0)).trans e0, (hW.cell (World.block_lt_of_cell? _ _ e1)).trans e1, (hW.cell (World.block_lt_of_cell? _ _ e2)).trans e2, (hW.cell (World.block_lt_of_cell? _ _ e3)).trans e3, (hW.cell (World.block_lt_of_cell? _ _ e4)).trans e4⟩⟩
   replace e0 := (HB.out.cell (World.block_lt_of_cell? _ _ e0)).trans e0
   replace e1 := (HB.out.cell (World.block_lt_of_cell? _ _ e1)).trans e1
   replace e2 := (HB.out.cell (World.block_lt_of_cell? _ _ e2)).trans e2
   replace e3 := (HB.out.cell (World.block_lt_of_cell? _ _ e3)).trans e3
   replace e4 := (HB.out.cell (World.block_lt_of_cell? _ _ e4)).trans e4
   subst eA
   have F2 := Aside0.mk f2
   have F3 := Aside0.mk f3
   have F4 := Aside0.mk f4
   have L2 := Aside0.mk l2
   have L3 := Aside0.mk l3
   have L4 := Aside0.mk l4
   have HX := Aside0.mk hx
   clear f2 f3 f4 l2 l3 l4 hx hcf
   have HLT := Aside0.mk hlt
   clear hlt
   by_cases h1 : x.f0 = 1
   ·have hb1 : (x.f0 != 1) = false := by rw [h1]; rfl
    have H1 := Aside0.mk h1
    clear h1
    go_wp2_with fail
    refine HSEG.out.mono ?_
    rintro e w5 ⟨v5, rfl, hN5, hb5⟩
    rw [P2.out] at hN5
    obtain ⟨D, hDe⟩ : ∃ D, (foldP (l0.take f)).1 = D := ⟨_, rfl⟩
    obtain ⟨G, hGe⟩ : ∃ G, gapP (foldP (l0.take k)).2.1 (foldP (l0.take k)).2.2 = G := ⟨_, rfl⟩
    rw [hGe] at hN5 hG
    rw [hDe] at HN hD
    obtain ⟨A5, c5, rfl⟩ := Kd.N_slice hN5
    have HF5 := Aside0.mk (Kd.N_F hN5)
    have HN5 := Aside0.mk (Kd.N_below HN.out hb5)
    have HB5 := Aside0.mk (below_step HB.out hb5)
    have HOW := Aside0.mk (fun j (e_ : Value.ownBlock (.slice Ao D.length co) = some j) => Kd.N_lt HN.out j e_)
    have DE := Aside0.mk hDe
    have GE := Aside0.mk hGe
    clear hN5 hb5 HSEG HN hDe hGe P2 e0 e1 e2 e3 e4
    rw [show (foldP (l0.take f)).1.length = D.length from by rw [DE.out]]
    go_upto_region 11 with ((with_reducible refine gate_builtin (b := .append) (xs := #[.tmp 26, .tmp 31]) rfl ?_); at_builtin; refine Kd.N_append_rows k30 (w0 := w) w.heap.size rfl (.tmp 26) (.tmp 31) 23 30 (.agg #[(.int .u8 0), (.int .i64 0), (.slice none 0 0), (.slice none 0 0), (.slice none 0 0)]) 88 rfl Try.underlying23 info30 rfl (by decide) (by omega) (.slice Ao D.length co) D G A5 G.length c5 (fun _ => True) (fun j => okI j ∨ wr.heap.size ≤ j) rfl rfl HN5.out HF5.out (okp_R HN5.out HOI.out HOW.out) (fun _ _ => trivial) HB5.out HB5.out.size (by omega) ?_; intro v6 w6 hN1 hB1 hg1 hat1; obtain ⟨L6, hL6⟩ : ∃ L_, L_ = D ++ G := ⟨_, rfl⟩; rw [← hL6] at hN1; have HL6 := Aside0.mk hL6; clear hL6; obtain ⟨A6, c6, rfl⟩ := Kd.N_slice hN1; have HN6 := Aside0.mk hN1; have HB6 := Aside0.mk hB1; clear hN1 hB1 hg1 hat1)
    have hLe : L6 = (foldP (l0.take k)).1 ++ gapP (foldP (l0.take k)).2.1 (foldP (l0.take k)).2.2 := by
     rw [HL6.out, ← DE.out, ← P1.out, ← GE.out]
    have hll : L6.length ≤ 1000000 := by rw [HL6.out, List.length_append]; omega
    have hst : foldP (l0.take (k + 1)) = (mergeR L6 x, [], 0) := by
     rw [foldP_succ l0 k x HX.out, hLe]
     exact mergeR_eq _ _ _ x (HOK.out x (List.mem_of_getElem? HX.out)) H1.out
    have HST := Aside0.mk hst
    have HLL := Aside0.mk hll
    have HL := Aside0.mk (below_step HB.out (Below.refl _ _))
    clear hLe hst hll P1 DE GE HL6 HL
    obtain ⟨n1, hn1⟩ : ∃ n, wrap64 ((L6.length : Int) - 1) = n := ⟨_, rfl⟩
    rw [hn1]
    have HEW : Aside0 (∀ W, Below w.heap.size w W → W.cell? (ad.add (k * 5)) = some (.int .u8 x.f0) ∧ W.cell? ⟨(ad.add (k * 5)).block, (ad.add (k * 5)).off + 1, none⟩ = some (.int .i64 x.f1) ∧ W.cell? ⟨(ad.add (k * 5)).block, (ad.add (k * 5)).off + 2, none⟩ = some (.slice A2 x.f2.length c2) ∧ W.cell? ⟨(ad.add (k * 5)).block, (ad.add (k * 5)).off + 3, none⟩ = some (.slice A3 x.f3.length c3) ∧ W.cell? ⟨(ad.add (k * 5)).block, (ad.add (k * 5)).off + 4, none⟩ = some (.slice A4 x.f4.length c4)) := EW
    clear EW
    by_cases hL0 : L6 = []
    ·have hd : decide (0 ≤ n1) = false := by rw [← hn1, hL0, w64 _ (by simp)]; simp
     have hmg : mergeR L6 x = L6 ++ [x] := by rw [hL0]; rfl
     have HMG := Aside0.mk hmg
     clear hmg hn1 hL0
     go_quiet (fail)
     have HB7 := Aside0.mk (below_step HB6.out (pw_below_drewN (Below.refl w6.heap.size w6) nq))
     have HN7 := Aside0.mk (Kd.N_drewN HN6.out nq)
     generalize w6.drewN nq = w7 at HB7 HN7 ⊢
     obtain ⟨e0, e1, e2, e3, e4⟩ := HEW.out _ HB7.out
     have hfk : Kd.FK k30 w7 okI x [.int .u8 x.f0, .int .i64 x.f1, .slice A2 x.f2.length c2, .slice A3 x.f3.length c3, .slice A4 x.f4.length c4] := k30_mkF w7 okI x L2.out (Kd.F_below F2.out HB7.out) L3.out (Kd.F_below F3.out HB7.out) L4.out (Kd.F_below F4.out HB7.out)
     have HFK := Aside0.mk hfk
     have hlo : L6.length ≤ 1000000 := HLL.out
     clear hfk
     go_wp2_with ((with_reducible refine gate_builtin (b := .append) (xs := #[.tmp 80, .tmp 85]) rfl ?_); at_builtin; refine Kd.N_append k30 (w0 := w) w.heap.size rfl (.tmp 80) (.tmp 85) 23 30 (.agg #[(.int .u8 0), (.int .i64 0), (.slice none 0 0), (.slice none 0 0), (.slice none 0 0)]) 88 rfl Try.underlying23 info30 rfl (by decide) (by omega) (.slice A6 L6.length c6) L6 x [.int .u8 x.f0, .int .i64 x.f1, .slice A2 x.f2.length c2, .slice A3 x.f3.length c3, .slice A4 x.f4.length c4] (fun _ => True) okI rfl rfl HFK.out (okp_N HN7.out HOI.out (fun _ _ => trivial)) (fun _ _ => trivial) HN7.out HB7.out HB7.out.size (by omega) ?_; intro v8 w8 hN1 hB1 hg1 hat1; obtain ⟨L8, hL8⟩ : ∃ L_, L_ = L6 ++ [x] := ⟨_, rfl⟩; rw [← hL8] at hN1; have HL8 := Aside0.mk hL8; clear hL8; obtain ⟨A8, c8, rfl⟩ := Kd.N_slice hN1; have HN8 := Aside0.mk hN1; have HB8 := Aside0.mk hB1; clear hN1 hB1 hg1 hat1)
     go_roundw
     case rel =>
      refine ⟨k + 1, k + 1, Nat.le_refl _, by have := HLT.out; omega, by go_num, by go_num, ⟨HB8.out, ?_, ?_, fun j a b => by omega⟩⟩
      ·rw [HST.out]
       show Kd.N k30 30 w8 w.heap.size (fun _ => True) _ (mergeR L6 x)
       rw [HMG.out, ← HL8.out]
       exact HN8.out
      ·rw [HST.out]
     case measure => simp [intOf]; have := HLT.out; omega
    ·obtain ⟨m, o, hm, hom, hgl, hdl, hsets⟩ := last_split L6 hL0
     have hnm : n1 = (m : Int) := by rw [← hn1, hm, w64 _ (by have := HLL.out; omega)]; omega
     subst hnm
     have q2 : (m : Int) < (L6.length : Int) := by omega
     have q3 : (0 : Int) ≤ (m : Int) := Int.natCast_nonneg m
     obtain ⟨gD, capD, hvD, hgb, hgl2, cellsD, hcD⟩ := Kd.N_form HN6.out (by omega)
     injection hvD with hA1 hlen_ hc1
     clear hlen_
     subst hA1
     subst hc1
     obtain ⟨ce, hcl, hFK, hcc, hfr⟩ := Kd.N_elem HN6.out z30 (m : Int) (by omega) (by omega)
     have hgetD : L6.getD (m : Int).toNat z30 = o := by rw [Int.toNat_natCast, List.getD_eq_getElem?_getD, hom]; rfl
     rw [hgetD] at hFK
     obtain ⟨B2, d2, B3, d3, B4, d4, rfl, m2, G2, m3, G3, m4, G4⟩ := k30_openF hFK
     have z0 : w6.cell? ⟨gD, m * 5, none⟩ = some (.int .u8 o.f0) := hcc 0 _ rfl
     have z1 : w6.cell? ⟨gD, m * 5 + 1, none⟩ = some (.int .i64 o.f1) := hcc 1 _ rfl
     have z4 : w6.cell? ⟨gD, m * 5 + 4, none⟩ = some (.slice B4 o.f4.length d4) := hcc 4 _ rfl
     have G4_ := Aside0.mk (Kd.F_now G4)
     have HGL := Aside0.mk hgl
     have HSETS := Aside0.mk hsets
     have HDL := Aside0.mk hdl
     have HOM := Aside0.mk hom
     have HM := Aside0.mk hm
     have GGD : gD < w6.heap.size := World.block_lt_of_cell? w6 _ z0
     have GG := Aside0.mk GGD
     clear hcD hFK hcc hgetD G2 G3 G4 hgl hsets hdl hom hm hfr hn1 hcl GGD
     by_cases ho1 : o.f0 = 1
     ·have hob : (o.f0 == 1) = true := beq_iff_eq.2 ho1
      have HO1 := Aside0.mk ho1
      clear ho1
      have ZZ := Aside0.mk (And.intro z0 (And.intro z1 z4))
      have EWD : Aside0 (∀ W', Below w6.heap.size w6 W' → W'.cell? ⟨gD, m * 5, none⟩ = some (.int .u8 o.f0) ∧ W'.cell? ⟨gD, m * 5 + 4, none⟩ = some (.slice B4 o.f4.length d4) ∧ W'.cell? ⟨(ad.add (k * 5)).block, (ad.add (k * 5)).off + 4, none⟩ = some (.slice A4 x.f4.length c4) ∧ W'.cell? ⟨gD, m * 5 + 1, none⟩ = some (.int .i64 o.f1) ∧ W'.cell? ⟨(ad.add (k * 5)).block, (ad.add (k * 5)).off + 1, none⟩ = some (.int .i64 x.f1)) := ⟨fun W' hb => ⟨(hb.cell (World.block_lt_of_cell? _ _ ZZ.out.1)).trans ZZ.out.1, (hb.cell (World.block_lt_of_cell? _ _ ZZ.out.2.2)).trans ZZ.out.2.2, (HEW.out _ (below_step HB6.out hb)).2.2.2.2, (hb.cell (World.block_lt_of_cell? _ _ ZZ.out.2.1)).trans ZZ.out.2.1, (HEW.out _ (below_step HB6.out hb)).2.1⟩⟩
      clear ZZ z0 z1 z4
      refine start_ (n := 23) (S := fun w' => w'.cell? ⟨gD, m * 5, none⟩ = some (.int .u8 o.f0) ∧ w'.cell? ⟨gD, m * 5 + 4, none⟩ = some (.slice B4 o.f4.length d4) ∧ w'.cell? ⟨(ad.add (k * 5)).block, (ad.add (k * 5)).off + 4, none⟩ = some (.slice A4 x.f4.length c4)) (ds := []) #[false, false, false, false, false, false, false, false, false, false, false, false, false, false, false, false, false, false, false, false, false, false, false] (by kernel_rfl) rfl rfl ⟨(EWD.out _ (below_drew (Below.refl w6.heap.size w6))).1, (EWD.out _ (below_drew (Below.refl w6.heap.size w6))).2.1, (EWD.out _ (below_drew (Below.refl w6.heap.size w6))).2.2.1⟩ (fun hHeld => ?_)
      have hb := below_drew (Below.refl w6.heap.size w6)
      generalize w6.drew = w7 at hb hHeld ⊢
      have B7 := Aside0.mk hb
      clear hb
      refine pure_ (i := 0) (N := some 42) (v := ?_) (a' := ?_) #[true, false, false, false, false, false, false, false, false, false, false, false, false, false, false, false, false, false, false, false, false, false, false] rfl rfl (any_of rfl (by kernel_rfl)) (fun _ _ _ h => h) (Or.inl ⟨by rfl, ?_⟩) ?_ ?_
      rotate_left
      ·intro w'
       go_simp
       with_reducible rfl
      rotate_left
      ·simp only [Act.put, List.setIfInBounds_toArray, List.set_cons_zero, List.set_cons_succ, i64_w, i32_w]
       rfl
      refine pure_ (i := 1) (N := some 43) (v := ?_) (a' := ?_) #[true, true, false, false, false, false, false, false, false, false, false, false, false, false, false, false, false, false, false, false, false, false, false] rfl rfl (any_of rfl (by kernel_rfl)) (fun _ _ _ h => h) (Or.inl ⟨by rfl, ?_⟩) ?_ ?_
      rotate_left
      ·intro w'
       go_simp
       with_reducible rfl
      rotate_left
      ·simp only [Act.put, List.setIfInBounds_toArray, List.set_cons_zero, List.set_cons_succ, i64_w, i32_w]
       rfl
      refine pure_ (i := 2) (N := some 44) (v := ?_) (a' := ?_) #[true, true, true, false, false, false, false, false, false, false, false, false, false, false, false, false, false, false, false, false, false, false, false] rfl rfl (any_of rfl (by kernel_rfl)) (fun _ _ _ h => h) (Or.inl ⟨by rfl, ?_⟩) ?_ ?_
      rotate_left
      ·intro w'
       go_simp
       with_reducible rfl
      rotate_left
      ·simp only [Act.put, List.setIfInBounds_toArray, List.set_cons_zero, List.set_cons_succ, i64_w, i32_w]
       rfl
      refine pure_ (i := 3) (N := some 45) (v := ?_) (a' := ?_) #[true, true, true, true, false, false, false, false, false, false, false, false, false, false, false, false, false, false, false, false, false, false, false] rfl rfl (any_of rfl (by kernel_rfl)) (fun _ _ _ h => h) (Or.inl ⟨by rfl, ?_⟩) ?_ ?_
      rotate_left
      ·intro w'
       go_simp
       with_reducible rfl
      rotate_left
      ·simp only [Act.put, List.setIfInBounds_toArray, List.set_cons_zero, List.set_cons_succ, i64_w, i32_w]
       rfl
      refine pure_ (i := 4) (N := some 46) (v := ?_) (a' := ?_) #[true, true, true, true, true, false, false, false, false, false, false, false, false, false, false, false, false, false, false, false, false, false, false] rfl rfl (any_of rfl (by kernel_rfl)) (fun _ _ _ h => h) (Or.inl ⟨by rfl, ?_⟩) ?_ ?_
      rotate_left
      ·intro w'
       go_simp
       with_reducible rfl
      rotate_left
      ·simp only [Act.put, List.setIfInBounds_toArray, List.set_cons_zero, List.set_cons_succ, i64_w, i32_w]
       rfl
      refine pure_ (i := 5) (N := some 47) (v := ?_) (a' := ?_) #[true, true, true, true, true, true, false, false, false, false, false, false, false, false, false, false, false, false, false, false, false, false, false] rfl rfl (any_of rfl (by kernel_rfl)) (fun _ _ _ h => h) (Or.inl ⟨by rfl, ?_⟩) ?_ ?_
      rotate_left
      ·intro w'
       go_simp
       with_reducible rfl
      rotate_left
      ·simp only [Act.put, List.setIfInBounds_toArray, List.set_cons_zero, List.set_cons_succ, i64_w, i32_w]
       rfl
      refine pure_ (i := 6) (N := some 48) (v := ?_) (a' := ?_) #[true, true, true, true, true, true, true, false, false, false, false, false, false, false, false, false, false, false, false, false, false, false, false] rfl rfl (any_of rfl (by kernel_rfl)) (fun _ _ _ h => h) (Or.inl ⟨by rfl, ?_⟩) ?_ ?_
      rotate_left
      ·intro w'
       go_simp
       with_reducible rfl
      rotate_left
      ·simp only [Act.put, List.setIfInBounds_toArray, List.set_cons_zero, List.set_cons_succ, i64_w, i32_w]
       rfl
      refine take_ (i := 7) (N := some 49) (v := ?_) (a' := ?_) #[true, true, true, true, true, true, true, true, false, false, false, false, false, false, false, false, false, false, false, false, false, false, false] rfl rfl (take_of rfl (by kernel_rfl)) (fun _ _ _ h => h) (Or.inl ⟨by rfl, ?_⟩) hHeld ?_ ?_
      rotate_left
      ·rintro w' ⟨s0, s1, s2⟩
       go_simp
       with_reducible rfl
      rotate_left
      ·simp only [Act.put, List.setIfInBounds_toArray, List.set_cons_zero, List.set_cons_succ, i64_w, i32_w]
       rfl
      refine pure_ (i := 8) (N := some 50) (v := ?_) (a' := ?_) #[true, true, true, true, true, true, true, true, true, false, false, false, false, false, false, false, false, false, false, false, false, false, false] rfl rfl (any_of rfl (by kernel_rfl)) (fun _ _ _ h => h) (Or.inl ⟨by rfl, ?_⟩) ?_ ?_
      rotate_left
      ·intro w'
       go_simp
       with_reducible rfl
      rotate_left
      ·simp only [Act.put, List.setIfInBounds_toArray, List.set_cons_zero, List.set_cons_succ, i64_w, i32_w]
       rfl
      refine pure_ (i := 9) (N := some 51) (v := ?_) (a' := ?_) #[true, true, true, true, true, true, true, true, true, true, false, false, false, false, false, false, false, false, false, false, false, false, false] rfl rfl (any_of rfl (by kernel_rfl)) (fun _ _ _ h => h) (Or.inl ⟨by rfl, ?_⟩) ?_ ?_
      rotate_left
      ·intro w'
       go_simp
       with_reducible rfl
      rotate_left
      ·simp only [Act.put, List.setIfInBounds_toArray, List.set_cons_zero, List.set_cons_succ, i64_w, i32_w]
       rfl
      refine pure_ (i := 10) (N := some 52) (v := ?_) (a' := ?_) #[true, true, true, true, true, true, true, true, true, true, true, false, false, false, false, false, false, false, false, false, false, false, false] rfl rfl (any_of rfl (by kernel_rfl)) (fun _ _ _ h => h) (Or.inl ⟨by rfl, ?_⟩) ?_ ?_
      rotate_left
      ·intro w'
       go_simp
       with_reducible rfl
      rotate_left
      ·simp only [Act.put, List.setIfInBounds_toArray, List.set_cons_zero, List.set_cons_succ, i64_w, i32_w]
       rfl
      refine pure_ (i := 11) (N := some 53) (v := ?_) (a' := ?_) #[true, true, true, true, true, true, true, true, true, true, true, true, false, false, false, false, false, false, false, false, false, false, false] rfl rfl (any_of rfl (by kernel_rfl)) (fun _ _ _ h => h) (Or.inl ⟨by rfl, ?_⟩) ?_ ?_
      rotate_left
      ·intro w'
       go_simp
       with_reducible rfl
      rotate_left
      ·simp only [Act.put, List.setIfInBounds_toArray, List.set_cons_zero, List.set_cons_succ, i64_w, i32_w]
       rfl
      refine pure_ (i := 12) (N := some 54) (v := ?_) (a' := ?_) #[true, true, true, true, true, true, true, true, true, true, true, true, true, false, false, false, false, false, false, false, false, false, false] rfl rfl (any_of rfl (by kernel_rfl)) (fun _ _ _ h => h) (Or.inl ⟨by rfl, ?_⟩) ?_ ?_
      rotate_left
      ·intro w'
       go_simp
       with_reducible rfl
      rotate_left
      ·simp only [Act.put, List.setIfInBounds_toArray, List.set_cons_zero, List.set_cons_succ, i64_w, i32_w]
       rfl
      refine pure_ (i := 13) (N := some 55) (v := ?_) (a' := ?_) #[true, true, true, true, true, true, true, true, true, true, true, true, true, true, false, false, false, false, false, false, false, false, false] rfl rfl (any_of rfl (by kernel_rfl)) (fun _ _ _ h => h) (Or.inl ⟨by rfl, ?_⟩) ?_ ?_
      rotate_left
      ·intro w'
       go_simp
       with_reducible rfl
      rotate_left
      ·simp only [Act.put, List.setIfInBounds_toArray, List.set_cons_zero, List.set_cons_succ, i64_w, i32_w]
       rfl
      refine pure_ (i := 14) (N := some 56) (v := ?_) (a' := ?_) #[true, true, true, true, true, true, true, true, true, true, true, true, true, true, true, false, false, false, false, false, false, false, false] rfl rfl (any_of rfl (by kernel_rfl)) (fun _ _ _ h => h) (Or.inl ⟨by rfl, ?_⟩) ?_ ?_
      rotate_left
      ·intro w'
       go_simp
       with_reducible rfl
      rotate_left
      ·simp only [Act.put, List.setIfInBounds_toArray, List.set_cons_zero, List.set_cons_succ, i64_w, i32_w]
       rfl
      refine take_ (i := 15) (N := some 57) (v := ?_) (a' := ?_) #[true, true, true, true, true, true, true, true, true, true, true, true, true, true, true, true, false, false, false, false, false, false, false] rfl rfl (take_of rfl (by kernel_rfl)) (fun _ _ _ h => h) (Or.inl ⟨by rfl, ?_⟩) hHeld ?_ ?_
      rotate_left
      ·rintro w' ⟨s0, s1, s2⟩
       go_simp
       with_reducible rfl
      rotate_left
      ·simp only [Act.put, List.setIfInBounds_toArray, List.set_cons_zero, List.set_cons_succ, i64_w, i32_w]
       rfl
      refine pure_ (i := 16) (N := some 58) (v := ?_) (a' := ?_) #[true, true, true, true, true, true, true, true, true, true, true, true, true, true, true, true, true, false, false, false, false, false, false] rfl rfl (any_of rfl (by kernel_rfl)) (fun _ _ _ h => h) (Or.inl ⟨by rfl, ?_⟩) ?_ ?_
      rotate_left
      ·intro w'
       go_simp
       with_reducible rfl
      rotate_left
      ·simp only [Act.put, List.setIfInBounds_toArray, List.set_cons_zero, List.set_cons_succ, i64_w, i32_w]
       rfl
      refine pure_ (i := 17) (N := some 59) (v := ?_) (a' := ?_) #[true, true, true, true, true, true, true, true, true, true, true, true, true, true, true, true, true, true, false, false, false, false, false] rfl rfl (any_of rfl (by kernel_rfl)) (fun _ _ _ h => h) (Or.inl ⟨by rfl, ?_⟩) ?_ ?_
      rotate_left
      ·intro w'
       go_simp
       with_reducible rfl
      rotate_left
      ·simp only [Act.put, List.setIfInBounds_toArray, List.set_cons_zero, List.set_cons_succ, i64_w, i32_w]
       rfl
      refine pure_ (i := 18) (N := some 60) (v := ?_) (a' := ?_) #[true, true, true, true, true, true, true, true, true, true, true, true, true, true, true, true, true, true, true, false, false, false, false] rfl rfl (any_of rfl (by kernel_rfl)) (fun _ _ _ h => h) (Or.inl ⟨by rfl, ?_⟩) ?_ ?_
      rotate_left
      ·intro w'
       go_simp
       with_reducible rfl
      rotate_left
      ·simp only [Act.put, List.setIfInBounds_toArray, List.set_cons_zero, List.set_cons_succ, i64_w, i32_w]
       rfl
      refine pure_ (i := 19) (N := some 61) (v := ?_) (a' := ?_) #[true, true, true, true, true, true, true, true, true, true, true, true, true, true, true, true, true, true, true, true, false, false, false] rfl rfl (any_of rfl (by kernel_rfl)) (fun _ _ _ h => h) (Or.inl ⟨by rfl, ?_⟩) ?_ ?_
      rotate_left
      ·intro w'
       go_simp
       with_reducible rfl
      rotate_left
      ·simp only [Act.put, List.setIfInBounds_toArray, List.set_cons_zero, List.set_cons_succ, i64_w, i32_w]
       rfl
      refine take_ (i := 20) (N := some 62) (v := ?_) (a' := ?_) #[true, true, true, true, true, true, true, true, true, true, true, true, true, true, true, true, true, true, true, true, true, false, false] rfl rfl (take_of rfl (by kernel_rfl)) (fun _ _ _ h => h) (Or.inl ⟨by rfl, ?_⟩) hHeld ?_ ?_
      rotate_left
      ·rintro w' ⟨s0, s1, s2⟩
       go_simp
       with_reducible rfl
      rotate_left
      ·simp only [Act.put, List.setIfInBounds_toArray, List.set_cons_zero, List.set_cons_succ, i64_w, i32_w]
       rfl
      refine one_ (i := 21) (N := some 63) #[true, true, true, true, true, true, true, true, true, true, true, true, true, true, true, true, true, true, true, true, true, true, false] rfl rfl (one_of rfl (by kernel_rfl)) (by decide) (fun K hK => ?_)
      refine goes_ Try.func33 (by kernel_rfl) rfl #[.slice B4 o.f4.length d4, .slice A4 x.f4.length c4] (by rfl) rfl rfl (by (try simp only [List.map_toArray, List.map_cons, List.map_nil]); first | done | rfl) ?_
      refine (refC_calls B4 d4 o.f4 A4 c4 x.f4 w7 (Kd.C_below G4_.out B7.out) m4 (Kd.C_below (Kd.F_now F4.out) (below_step HB6.out B7.out)) L4.out).mono ?_
      rintro e w8 ⟨rfl, hb⟩
      have B8 := Aside0.mk (below_step B7.out hb)
      have HB8 := Aside0.mk (below_step HB6.out B8.out)
      have HN8 := Aside0.mk (Kd.N_below HN6.out B8.out)
      obtain ⟨b4, hb4⟩ : ∃ b, eqB (keyC o.f4) (keyC x.f4) = b := ⟨_, rfl⟩
      rw [hb4]
      clear hb
      refine ⟨_, rfl, ?_⟩
      refine hK.out _ _ ⟨(EWD.out _ B8.out).1, (EWD.out _ B8.out).2.1, (EWD.out _ B8.out).2.2.1⟩ (fun hHeld => ?_)
      clear hK K
      refine norm_ (a' := ?_) ?_ ?_
      rotate_left
      ·show Act.put _ (some 63) _ = _
       simp only [Act.put, List.setIfInBounds_toArray, List.set_cons_zero, List.set_cons_succ, i64_w, i32_w]
       rfl
      refine pure_ (i := 22) (N := some 64) (v := ?_) (a' := ?_) #[true, true, true, true, true, true, true, true, true, true, true, true, true, true, true, true, true, true, true, true, true, true, true] rfl rfl (any_of rfl (by kernel_rfl)) (fun _ _ _ h => h) (Or.inl ⟨by rfl, ?_⟩) ?_ ?_
      rotate_left
      ·intro w'
       go_simp
       with_reducible rfl
      rotate_left
      ·simp only [Act.put, List.setIfInBounds_toArray, List.set_cons_zero, List.set_cons_succ, i64_w, i32_w]
       rfl
      refine done_ (done_of rfl (by kernel_rfl)) ?_
      clear hHeld
      cases b4 with
      | false =>
       have hmg : mergeR L6 x = L6 ++ [x] := by
        unfold mergeR
        rw [HGL.out]
        exact if_neg (fun h => eqB_false.1 hb4 h.2)
       have HMG := Aside0.mk hmg
       clear hmg hb4
       obtain ⟨e0, e1, e2, e3, e4⟩ := HEW.out _ HB8.out
       have hfk : Kd.FK k30 w8 okI x [.int .u8 x.f0, .int .i64 x.f1, .slice A2 x.f2.length c2, .slice A3 x.f3.length c3, .slice A4 x.f4.length c4] := k30_mkF w8 okI x L2.out (Kd.F_below F2.out HB8.out) L3.out (Kd.F_below F3.out HB8.out) L4.out (Kd.F_below F4.out HB8.out)
       have HFK := Aside0.mk hfk
       have hlo : L6.length ≤ 1000000 := HLL.out
       clear hfk
       go_wp2_with ((with_reducible refine gate_builtin (b := .append) (xs := #[.tmp 80, .tmp 85]) rfl ?_); at_builtin; refine Kd.N_append k30 (w0 := w) w.heap.size rfl (.tmp 80) (.tmp 85) 23 30 (.agg #[(.int .u8 0), (.int .i64 0), (.slice none 0 0), (.slice none 0 0), (.slice none 0 0)]) 88 rfl Try.underlying23 info30 rfl (by decide) (by omega) (.slice (some ⟨gD, 0, none⟩) L6.length c6) L6 x [.int .u8 x.f0, .int .i64 x.f1, .slice A2 x.f2.length c2, .slice A3 x.f3.length c3, .slice A4 x.f4.length c4] (fun _ => True) okI rfl rfl HFK.out (okp_N HN8.out HOI.out (fun _ _ => trivial)) (fun _ _ => trivial) HN8.out HB8.out HB8.out.size (by omega) ?_; intro v8 w9 hN1 hB1 hg1 hat1; obtain ⟨L8, hLx⟩ : ∃ L_, L_ = L6 ++ [x] := ⟨_, rfl⟩; rw [← hLx] at hN1; have HL8 := Aside0.mk hLx; clear hLx; obtain ⟨A8, c8, rfl⟩ := Kd.N_slice hN1; have HN9 := Aside0.mk hN1; have HB9 := Aside0.mk hB1; clear hN1 hB1 hg1 hat1)
       go_roundw
       case rel =>
        refine ⟨k + 1, k + 1, Nat.le_refl _, by have := HLT.out; omega, by go_num, by go_num, ⟨HB9.out, ?_, ?_, fun j a b => by omega⟩⟩
        ·rw [HST.out]
         show Kd.N k30 30 w9 w.heap.size (fun _ => True) _ (mergeR L6 x)
         rw [HMG.out, ← HL8.out]
         exact HN9.out
        ·rw [HST.out]
       case measure => simp [intOf]; have := HLT.out; omega
      | true =>
       have hmg : mergeR L6 x = L6.dropLast ++ [⟨o.f0, wrap64 (o.f1 + x.f1), o.f2, o.f3, o.f4⟩] := by
        unfold mergeR
        rw [HGL.out]
        exact if_pos ⟨HO1.out, eqB_true.1 hb4⟩
       have HMG := Aside0.mk hmg
       clear hmg hb4
       go_upto_region 12 with (fail)
       refine start_ (n := 16) (S := fun w' => w'.cell? ⟨gD, m * 5 + 1, none⟩ = some (.int .i64 o.f1) ∧ w'.cell? ⟨(ad.add (k * 5)).block, (ad.add (k * 5)).off + 1, none⟩ = some (.int .i64 x.f1)) (ds := [15]) #[false, false, false, false, false, false, false, false, false, false, false, false, false, false, false, false] (by kernel_rfl) rfl rfl ⟨(EWD.out _ (below_step B8.out (below_drew (Below.refl w8.heap.size w8)))).2.2.2.1, (EWD.out _ (below_step B8.out (below_drew (Below.refl w8.heap.size w8)))).2.2.2.2⟩ (fun hHeld => ?_)
       have hb := below_drew (Below.refl w8.heap.size w8)
       generalize w8.drew = w9 at hb hHeld ⊢
       have B9 := Aside0.mk (below_step B8.out hb)
       have HB9 := Aside0.mk (below_step HB8.out hb)
       have HN9 := Aside0.mk (Kd.N_below HN8.out hb)
       clear hb
       refine pure_ (i := 0) (N := some 65) (v := ?_) (a' := ?_) #[true, false, false, false, false, false, false, false, false, false, false, false, false, false, false, false] rfl rfl (any_of rfl (by kernel_rfl)) (fun _ _ _ h => h) (Or.inl ⟨by rfl, ?_⟩) ?_ ?_
       rotate_left
       ·intro w'
        go_simp
        with_reducible rfl
       rotate_left
       ·simp only [Act.put, List.setIfInBounds_toArray, List.set_cons_zero, List.set_cons_succ, i64_w, i32_w]
        rfl
       refine pure_ (i := 1) (N := some 66) (v := ?_) (a' := ?_) #[true, true, false, false, false, false, false, false, false, false, false, false, false, false, false, false] rfl rfl (any_of rfl (by kernel_rfl)) (fun _ _ _ h => h) (Or.inl ⟨by rfl, ?_⟩) ?_ ?_
       rotate_left
       ·intro w'
        go_simp
        with_reducible rfl
       rotate_left
       ·simp only [Act.put, List.setIfInBounds_toArray, List.set_cons_zero, List.set_cons_succ, i64_w, i32_w]
        rfl
       refine pure_ (i := 2) (N := some 67) (v := ?_) (a' := ?_) #[true, true, true, false, false, false, false, false, false, false, false, false, false, false, false, false] rfl rfl (any_of rfl (by kernel_rfl)) (fun _ _ _ h => h) (Or.inl ⟨by rfl, ?_⟩) ?_ ?_
       rotate_left
       ·intro w'
        go_simp
        with_reducible rfl
       rotate_left
       ·simp only [Act.put, List.setIfInBounds_toArray, List.set_cons_zero, List.set_cons_succ, i64_w, i32_w]
        rfl
       refine pure_ (i := 3) (N := some 68) (v := ?_) (a' := ?_) #[true, true, true, true, false, false, false, false, false, false, false, false, false, false, false, false] rfl rfl (any_of rfl (by kernel_rfl)) (fun _ _ _ h => h) (Or.inl ⟨by rfl, ?_⟩) ?_ ?_
       rotate_left
       ·intro w'
        go_simp
        with_reducible rfl
       rotate_left
       ·simp only [Act.put, List.setIfInBounds_toArray, List.set_cons_zero, List.set_cons_succ, i64_w, i32_w]
        rfl
       refine pure_ (i := 4) (N := some 69) (v := ?_) (a' := ?_) #[true, true, true, true, true, false, false, false, false, false, false, false, false, false, false, false] rfl rfl (any_of rfl (by kernel_rfl)) (fun _ _ _ h => h) (Or.inl ⟨by rfl, ?_⟩) ?_ ?_
       rotate_left
       ·intro w'
        go_simp
        with_reducible rfl
       rotate_left
       ·simp only [Act.put, List.setIfInBounds_toArray, List.set_cons_zero, List.set_cons_succ, i64_w, i32_w]
        rfl
       refine pure_ (i := 5) (N := some 70) (v := ?_) (a' := ?_) #[true, true, true, true, true, true, false, false, false, false, false, false, false, false, false, false] rfl rfl (any_of rfl (by kernel_rfl)) (fun _ _ _ h => h) (Or.inl ⟨by rfl, ?_⟩) ?_ ?_
       rotate_left
       ·intro w'
        go_simp
        with_reducible rfl
       rotate_left
       ·simp only [Act.put, List.setIfInBounds_toArray, List.set_cons_zero, List.set_cons_succ, i64_w, i32_w]
        rfl
       refine take_ (i := 6) (N := some 71) (v := ?_) (a' := ?_) #[true, true, true, true, true, true, true, false, false, false, false, false, false, false, false, false] rfl rfl (take_of rfl (by kernel_rfl)) (fun _ _ _ h => h) (Or.inl ⟨by rfl, ?_⟩) hHeld ?_ ?_
       rotate_left
       ·rintro w' ⟨s0, s1⟩
        go_simp
        with_reducible rfl
       rotate_left
       ·simp only [Act.put, List.setIfInBounds_toArray, List.set_cons_zero, List.set_cons_succ, i64_w, i32_w]
        rfl
       refine pure_ (i := 7) (N := some 72) (v := ?_) (a' := ?_) #[true, true, true, true, true, true, true, true, false, false, false, false, false, false, false, false] rfl rfl (any_of rfl (by kernel_rfl)) (fun _ _ _ h => h) (Or.inl ⟨by rfl, ?_⟩) ?_ ?_
       rotate_left
       ·intro w'
        go_simp
        with_reducible rfl
       rotate_left
       ·simp only [Act.put, List.setIfInBounds_toArray, List.set_cons_zero, List.set_cons_succ, i64_w, i32_w]
        rfl
       refine pure_ (i := 8) (N := some 73) (v := ?_) (a' := ?_) #[true, true, true, true, true, true, true, true, true, false, false, false, false, false, false, false] rfl rfl (any_of rfl (by kernel_rfl)) (fun _ _ _ h => h) (Or.inl ⟨by rfl, ?_⟩) ?_ ?_
       rotate_left
       ·intro w'
        go_simp
        with_reducible rfl
       rotate_left
       ·simp only [Act.put, List.setIfInBounds_toArray, List.set_cons_zero, List.set_cons_succ, i64_w, i32_w]
        rfl
       refine pure_ (i := 9) (N := some 74) (v := ?_) (a' := ?_) #[true, true, true, true, true, true, true, true, true, true, false, false, false, false, false, false] rfl rfl (any_of rfl (by kernel_rfl)) (fun _ _ _ h => h) (Or.inl ⟨by rfl, ?_⟩) ?_ ?_
       rotate_left
       ·intro w'
        go_simp
        with_reducible rfl
       rotate_left
       ·simp only [Act.put, List.setIfInBounds_toArray, List.set_cons_zero, List.set_cons_succ, i64_w, i32_w]
        rfl
       refine pure_ (i := 10) (N := some 75) (v := ?_) (a' := ?_) #[true, true, true, true, true, true, true, true, true, true, true, false, false, false, false, false] rfl rfl (any_of rfl (by kernel_rfl)) (fun _ _ _ h => h) (Or.inl ⟨by rfl, ?_⟩) ?_ ?_
       rotate_left
       ·intro w'
        go_simp
        with_reducible rfl
       rotate_left
       ·simp only [Act.put, List.setIfInBounds_toArray, List.set_cons_zero, List.set_cons_succ, i64_w, i32_w]
        rfl
       refine take_ (i := 11) (N := some 76) (v := ?_) (a' := ?_) #[true, true, true, true, true, true, true, true, true, true, true, true, false, false, false, false] rfl rfl (take_of rfl (by kernel_rfl)) (fun _ _ _ h => h) (Or.inl ⟨by rfl, ?_⟩) hHeld ?_ ?_
       rotate_left
       ·rintro w' ⟨s0, s1⟩
        go_simp
        with_reducible rfl
       rotate_left
       ·simp only [Act.put, List.setIfInBounds_toArray, List.set_cons_zero, List.set_cons_succ, i64_w, i32_w]
        rfl
       refine pure_ (i := 12) (N := some 77) (v := ?_) (a' := ?_) #[true, true, true, true, true, true, true, true, true, true, true, true, true, false, false, false] rfl rfl (any_of rfl (by kernel_rfl)) (fun _ _ _ h => h) (Or.inl ⟨by rfl, ?_⟩) ?_ ?_
       rotate_left
       ·intro w'
        go_simp
        with_reducible rfl
       rotate_left
       ·simp only [Act.put, List.setIfInBounds_toArray, List.set_cons_zero, List.set_cons_succ, i64_w, i32_w]
        rfl
       refine pure_ (i := 13) (N := some 78) (v := ?_) (a' := ?_) #[true, true, true, true, true, true, true, true, true, true, true, true, true, true, false, false] rfl rfl (any_of rfl (by kernel_rfl)) (fun _ _ _ h => h) (Or.inl ⟨by rfl, ?_⟩) ?_ ?_
       rotate_left
       ·intro w'
        go_simp
        with_reducible rfl
       rotate_left
       ·simp only [Act.put, List.setIfInBounds_toArray, List.set_cons_zero, List.set_cons_succ, i64_w, i32_w]
        rfl
       refine pure_ (i := 14) (N := some 79) (v := ?_) (a' := ?_) #[true, true, true, true, true, true, true, true, true, true, true, true, true, true, true, false] rfl rfl (any_of rfl (by kernel_rfl)) (fun _ _ _ h => h) (Or.inl ⟨by rfl, ?_⟩) ?_ ?_
       rotate_left
       ·intro w'
        go_simp
        with_reducible rfl
       rotate_left
       ·simp only [Act.put, List.setIfInBounds_toArray, List.set_cons_zero, List.set_cons_succ, i64_w, i32_w]
        rfl
       obtain ⟨ce, hcl, hFK, hcc, hfr⟩ := Kd.N_elem HN9.out z30 (m : Int) (by omega) (by omega)
       have hgetD : L6.getD (m : Int).toNat z30 = o := by rw [Int.toNat_natCast, List.getD_eq_getElem?_getD, HOM.out]; rfl
       rw [hgetD] at hFK
       obtain ⟨J2, j2, J3, j3, J4, j4, rfl, i2, K2, i3, K3, i4, K4⟩ := k30_openF hFK
       have fz := (hfr 1 : w9.frozen? ⟨gD, m * 5 + 1, none⟩ = false)
       have hS9 := Kd.N_seg HN9.out (m : Int) (by omega) (by omega) hcl hcc (seg := [.int .i64 (wrap64 (o.f1 + x.f1))]) (j := 1) (show 1 + 1 ≤ 5 from by decide) (x' := (⟨o.f0, wrap64 (o.f1 + x.f1), o.f2, o.f3, o.f4⟩ : S30)) (k30_mkF w9 (fun k => True ∧ k ≠ gD) (⟨o.f0, wrap64 (o.f1 + x.f1), o.f2, o.f3, o.f4⟩ : S30) i2 K2 i3 K3 i4 K4) (fun _ hk => hk)
       have HS9 := Aside0.mk hS9.1
       have zz9 := (EWD.out _ B9.out).2.2.2.1
       clear hS9 hcl hFK hcc hfr hgetD K2 K3 K4
       refine last_ (i := 15) (N := none) #[true, true, true, true, true, true, true, true, true, true, true, true, true, true, true, true] rfl rfl (one_of rfl (by kernel_rfl)) (by decide) (fun K hK => ?_)
       refine skip_ (w1 := w9.setCell ⟨gD, m * 5 + 1, none⟩ (.int .i64 (wrap64 (o.f1 + x.f1)))) (by rfl) rfl ?_ ?_
       ·go_simp
        all_goals first | rfl | exact fz
       refine hK.out _ _ ?_
       clear hK K
       refine done_ (done_of rfl (by kernel_rfl)) ?_
       have hnew : OI w (w9.setCell ⟨gD, m * 5 + 1, none⟩ (.int .i64 (wrap64 (o.f1 + x.f1)))) (.slice (some ⟨gD, 0, none⟩) L6.length c6) l0 (k + 1) (k + 1) := by
        have h_ := HS9.out
        rw [HSETS.out] at h_
        refine ⟨HB9.out.setCell (p := ⟨gD, m * 5 + 1, none⟩) hgb _, ?_, by rw [HST.out], fun j a b => by omega⟩
        rw [HST.out]
        show Kd.N k30 30 _ w.heap.size (fun _ => True) _ (mergeR L6 x)
        rw [HMG.out]
        exact h_
       have HNEW := Aside0.mk hnew
       clear hnew zz9 fz
       go_wp2_with fail
       go_roundw
       case rel => exact ⟨k + 1, k + 1, Nat.le_refl _, by have := HLT.out; omega, by go_num, by go_num, HNEW⟩
       case measure => simp [intOf]; have := HLT.out; omega
     ·have hmg : mergeR L6 x = L6 ++ [x] := by
       unfold mergeR
       rw [HGL.out]
       exact if_neg (fun h => ho1 h.1)
      have HMG := Aside0.mk hmg
      have hob : (o.f0 == 1) = false := beq_eq_false_iff_ne.2 ho1
      clear hmg ho1 z1 z4
      go_quiet (fail)
      have HB7 := Aside0.mk (below_step HB6.out (pw_below_drewN (Below.refl w6.heap.size w6) nq))
      have HN7 := Aside0.mk (Kd.N_drewN HN6.out nq)
      generalize w6.drewN nq = w7 at HB7 HN7 ⊢
      clear z0
      obtain ⟨e0, e1, e2, e3, e4⟩ := HEW.out _ HB7.out
      have hfk : Kd.FK k30 w7 okI x [.int .u8 x.f0, .int .i64 x.f1, .slice A2 x.f2.length c2, .slice A3 x.f3.length c3, .slice A4 x.f4.length c4] := k30_mkF w7 okI x L2.out (Kd.F_below F2.out HB7.out) L3.out (Kd.F_below F3.out HB7.out) L4.out (Kd.F_below F4.out HB7.out)
      have HFK := Aside0.mk hfk
      have hlo : L6.length ≤ 1000000 := HLL.out
      clear hfk
      go_wp2_with ((with_reducible refine gate_builtin (b := .append) (xs := #[.tmp 80, .tmp 85]) rfl ?_); at_builtin; refine Kd.N_append k30 (w0 := w) w.heap.size rfl (.tmp 80) (.tmp 85) 23 30 (.agg #[(.int .u8 0), (.int .i64 0), (.slice none 0 0), (.slice none 0 0), (.slice none 0 0)]) 88 rfl Try.underlying23 info30 rfl (by decide) (by omega) (.slice (some ⟨gD, 0, none⟩) L6.length c6) L6 x [.int .u8 x.f0, .int .i64 x.f1, .slice A2 x.f2.length c2, .slice A3 x.f3.length c3, .slice A4 x.f4.length c4] (fun _ => True) okI rfl rfl HFK.out (okp_N HN7.out HOI.out (fun _ _ => trivial)) (fun _ _ => trivial) HN7.out HB7.out HB7.out.size (by omega) ?_; intro v8 w8 hN1 hB1 hg1 hat1; obtain ⟨L8, hL8⟩ : ∃ L_, L_ = L6 ++ [x] := ⟨_, rfl⟩; rw [← hL8] at hN1; have HL8 := Aside0.mk hL8; clear hL8; obtain ⟨A8, c8, rfl⟩ := Kd.N_slice hN1; have HN8 := Aside0.mk hN1; have HB8 := Aside0.mk hB1; clear hN1 hB1 hg1 hat1)
      go_roundw
      case rel =>
       refine ⟨k + 1, k + 1, Nat.le_refl _, by have := HLT.out; omega, by go_num, by go_num, ⟨HB8.out, ?_, ?_, fun j a b => by omega⟩⟩
       ·rw [HST.out]
        show Kd.N k30 30 w8 w.heap.size (fun _ => True) _ (mergeR L6 x)
        rw [HMG.out, ← HL8.out]
        exact HN8.out
       ·rw [HST.out]
      case measure => simp [intOf]; have := HLT.out; omega
   ·have hb1 : (x.f0 != 1) = true := bne_iff_ne.2 h1
    go_wp2_with fail
    go_roundw
    case rel =>
     obtain ⟨_, _, h0, hnr⟩ := HI.out
     exact ⟨f, k + 1, by omega, by have := HLT.out; omega, by go_num, rfl, ⟨HB.out, HN.out, h0, fun j a b o ho => by
      by_cases hj : j = k
      ·subst hj; rw [HX.out] at ho; cases ho; exact h1
      ·exact hnr j a (by omega) o ho⟩⟩
    case measure => simp [intOf]; have := HLT.out; omega
  ·have hnl : ¬ (k : Int) < (l0.length : Int) := by omega
   have hnlb : decide ((k : Int) < (l0.length : Int)) = false := decide_eq_false hnl
   obtain rfl : k = l0.length := by omega
   clear hnl
   by_cases hcf : c0 = f
   ·obtain rfl : f = c0 := hcf.symm
    rw [if_pos rfl, show l0.length - f = 0 from by omega, Nat.sub_self] at HSEG
    go_wp2_with fail
    refine HSEG.out.mono ?_
    rintro e w5 ⟨v5, rfl, hN5, hb5⟩
    rw [P2.out] at hN5
    obtain ⟨D, hDe⟩ : ∃ D, (foldP (l0.take f)).1 = D := ⟨_, rfl⟩
    obtain ⟨G, hGe⟩ : ∃ G, gapP (foldP (l0.take l0.length)).2.1 (foldP (l0.take l0.length)).2.2 = G := ⟨_, rfl⟩
    rw [hGe] at hN5 hG
    rw [hDe] at HN hD
    obtain ⟨A5, c5, rfl⟩ := Kd.N_slice hN5
    have HF5 := Aside0.mk (Kd.N_F hN5)
    have HN5 := Aside0.mk (Kd.N_below HN.out hb5)
    have HB5 := Aside0.mk (below_step HB.out hb5)
    have HOW := Aside0.mk (fun j (e_ : Value.ownBlock (.slice Ao D.length co) = some j) => Kd.N_lt HN.out j e_)
    have DE := Aside0.mk hDe
    have GE := Aside0.mk hGe
    clear hN5 hb5 HSEG HN hDe hGe P2
    rw [show (foldP (l0.take f)).1.length = D.length from by rw [DE.out]]
    go_upto_region 14 with ((with_reducible refine gate_builtin (b := .append) (xs := #[.tmp 26, .tmp 31]) rfl ?_); at_builtin; refine Kd.N_append_rows k30 (w0 := w) w.heap.size rfl (.tmp 26) (.tmp 31) 23 30 (.agg #[(.int .u8 0), (.int .i64 0), (.slice none 0 0), (.slice none 0 0), (.slice none 0 0)]) 88 rfl Try.underlying23 info30 rfl (by decide) (by omega) (.slice Ao D.length co) D G A5 G.length c5 (fun _ => True) (fun j => okI j ∨ wr.heap.size ≤ j) rfl rfl HN5.out HF5.out (okp_R HN5.out HOI.out HOW.out) (fun _ _ => trivial) HB5.out HB5.out.size (by omega) ?_; intro v6 w6 hN1 hB1 hg1 hat1; obtain ⟨L6, hL6⟩ : ∃ L_, L_ = D ++ G := ⟨_, rfl⟩; rw [← hL6] at hN1; have HL6 := Aside0.mk hL6; clear hL6; obtain ⟨A6, c6, rfl⟩ := Kd.N_slice hN1; have HN6 := Aside0.mk hN1; have HB6 := Aside0.mk hB1; clear hN1 hB1 hg1 hat1)
    have hLe : L6 = (foldP l0).1 ++ gapP (foldP l0).2.1 (foldP l0).2.2 := by
     have h1 := P1.out
     have h2 := GE.out
     rw [List.take_length] at h1 h2
     rw [HL6.out, ← DE.out, ← h1, ← h2]
    have hsm : ∀ x ∈ L6, x.f2.length ≤ 1000000 ∧ x.f3.length ≤ 1000000 ∧ x.f4.length ≤ 1000000 := by
     rw [hLe]
     exact small_of (StOk.fold0 l0 H34.out) (by have := HT.out; omega)
    have hof : ofP l0 = match L6.getLast? with
      | some o => if o.f0 = 1 ∧ o.f4.length = 0 then L6.dropLast else L6
      | none => L6 := by rw [hLe]; rfl
    have hll : L6.length ≤ 1000000 := by rw [HL6.out, List.length_append]; omega
    have HOF := Aside0.mk hof
    have HSM := Aside0.mk hsm
    have HLL := Aside0.mk hll
    clear hLe hof hsm P1 DE GE HL6
    by_cases hL0 : L6 = []
    ·subst hL0
     have hw1 : wrap64 ((0 : Int) - 1) = -1 := w64 _ (by omega)
     go_wp2_with fail
     refine (refCopy_calls A6 c6 [] w6 (Kd.N_reads' HN6.out).2.2 (Nat.zero_le _) (by simp) (by simp)).mono ?_
     rintro e w7 ⟨v7, rfl, hS, hb⟩
     have HS7 := Aside0.mk (Kd.S_lower hS HB6.out.size)
     have HB7 := Aside0.mk (below_step HB6.out hb)
     clear hS hb
     go_wp2_with fail
     go_ret
     refine ⟨_, rfl, ?_, HB7.out⟩
     rw [HOF.out]
     exact HS7.out
    ·obtain ⟨m, o, hm, hom, hgl, hdl, _⟩ := last_split L6 hL0
     have hpos : 0 < L6.length := by omega
     have hge1 : (1 : Int) ≤ (L6.length : Int) := by omega
     have hge2 : ¬ ((L6.length : Int) < 1) := by omega
     have hge3 : decide ((1 : Int) ≤ (L6.length : Int)) = true := decide_eq_true hge1
     have hge4 : decide ((0 : Int) ≤ (L6.length : Int) - 1) = true := decide_eq_true (by omega)
     obtain rfl : m = L6.length - 1 := by omega
     have qm : (L6.length : Int) - 1 < (L6.length : Int) := by omega
     have qm0 : (0 : Int) ≤ (L6.length : Int) - 1 := by omega
     have hml : L6.length - 1 ≤ L6.length := by omega
     obtain ⟨gD, capD, hvD, _, hgl2, cellsD, hcD⟩ := Kd.N_form HN6.out (by omega)
     injection hvD with hA1 hlen_ hc1
     clear hlen_
     subst hA1
     subst hc1
     obtain ⟨ce, _, hFK, hcc, _⟩ := Kd.N_elem HN6.out z30 ((L6.length - 1 : Nat) : Int) (by omega) (by omega)
     have hgetD : L6.getD ((L6.length - 1 : Nat) : Int).toNat z30 = o := by rw [Int.toNat_natCast, List.getD_eq_getElem?_getD, hom]; rfl
     rw [hgetD] at hFK
     obtain ⟨B2, d2, B3, d3, B4, d4, rfl, _, _, _, _, hl4, hF4⟩ := k30_openF hFK
     have e0 : w6.cell? ⟨gD, (L6.length - 1) * 5, none⟩ = some (.int .u8 o.f0) := hcc 0 _ rfl
     have e4 : w6.cell? ⟨gD, (L6.length - 1) * 5 + 4, none⟩ = some (.slice B4 o.f4.length d4) := hcc 4 _ rfl
     have HGL := Aside0.mk hgl
     have HDL := Aside0.mk hdl
     have HML := Aside0.mk hml
     clear hFK hcc hgetD hl4 hF4 hcD hgl hdl hom hm hgl2
     by_cases hk1 : o.f0 = 1
     ·have hkb : (o.f0 == 1) = true := beq_iff_eq.2 hk1
      by_cases hp : o.f4.length = 0
      ·have hpb : ((o.f4.length : Int) == 0) = true := beq_iff_eq.2 (by omega)
       have hNT := Kd.N_take (m := L6.length - 1) HN6.out hml
       have hlt2 : (L6.take (L6.length - 1)).length = L6.length - 1 := by rw [List.length_take]; omega
       have hC4 := refCopy_calls (some ⟨gD, 0, none⟩) c6 (L6.take (L6.length - 1)) w6 (Kd.N_reads' hNT).2.2 (by have h_ := (Kd.N_reads' hNT).2.1; rw [hlt2]; exact h_) (by rw [hlt2]; omega) (fun x hx => HSM.out x (List.mem_of_mem_take hx))
       rw [hlt2] at hC4
       have HC4 := Aside0.mk hC4
       have hcm : L6.length - 1 ≤ c6 := (Kd.N_reads' hNT).2.1
       have HK1 := Aside0.mk hk1
       have HP := Aside0.mk hp
       clear hNT hlt2 hC4 hk1
       rw [hp] at e4
       clear hp
       go_wp2_with fail
       refine HC4.out.mono ?_
       rintro e w7 ⟨v7, rfl, hS, hb⟩
       have HS7 := Aside0.mk (Kd.S_lower hS HB6.out.size)
       have HB7 := Aside0.mk (below_step HB6.out hb)
       clear hS hb
       go_wp2_with fail
       go_ret
       refine ⟨_, rfl, ?_, HB7.out⟩
       rw [HOF.out]
       simp only [HGL.out]
       rw [if_pos ⟨HK1.out, HP.out⟩, HDL.out]
       exact HS7.out
      ·have hpb : ((o.f4.length : Int) == 0) = false := beq_eq_false_iff_ne.2 (by omega)
       have HP := Aside0.mk hp
       clear hk1 hp
       go_wp2_with fail
       refine (refCopy_calls (some ⟨gD, 0, none⟩) c6 L6 w6 (Kd.N_reads' HN6.out).2.2 (Kd.N_reads' HN6.out).2.1 (by have := HLL.out; omega) HSM.out).mono ?_
       rintro e w7 ⟨v7, rfl, hS, hb⟩
       have HS7 := Aside0.mk (Kd.S_lower hS HB6.out.size)
       have HB7 := Aside0.mk (below_step HB6.out hb)
       clear hS hb
       go_wp2_with fail
       go_ret
       refine ⟨_, rfl, ?_, HB7.out⟩
       rw [HOF.out]
       simp only [HGL.out]
       rw [if_neg (fun h => HP.out h.2)]
       exact HS7.out
     ·have hkb : (o.f0 == 1) = false := beq_eq_false_iff_ne.2 hk1
      have HK1 := Aside0.mk hk1
      clear hk1
      go_wp2_with fail
      refine (refCopy_calls (some ⟨gD, 0, none⟩) c6 L6 w6 (Kd.N_reads' HN6.out).2.2 (Kd.N_reads' HN6.out).2.1 (by have := HLL.out; omega) HSM.out).mono ?_
      rintro e w7 ⟨v7, rfl, hS, hb⟩
      have HS7 := Aside0.mk (Kd.S_lower hS HB6.out.size)
      have HB7 := Aside0.mk (below_step HB6.out hb)
      clear hS hb
      go_wp2_with fail
      go_ret
      refine ⟨_, rfl, ?_, HB7.out⟩
      rw [HOF.out]
      simp only [HGL.out]
      rw [if_neg (fun h => HK1.out h.1)]
      exact HS7.out
   ·rw [if_neg hcf] at HSEG
    have hcfi : ¬ (c0 : Int) = (f : Int) := by omega
    go_wp2_with fail
    refine HSEG.out.mono ?_
    rintro e w5 ⟨v5, rfl, hN5, hb5⟩
    rw [P2.out] at hN5
    obtain ⟨D, hDe⟩ : ∃ D, (foldP (l0.take f)).1 = D := ⟨_, rfl⟩
    obtain ⟨G, hGe⟩ : ∃ G, gapP (foldP (l0.take l0.length)).2.1 (foldP (l0.take l0.length)).2.2 = G := ⟨_, rfl⟩
    rw [hGe] at hN5 hG
    rw [hDe] at HN hD
    obtain ⟨A5, c5, rfl⟩ := Kd.N_slice hN5
    have HF5 := Aside0.mk (Kd.N_F hN5)
    have HN5 := Aside0.mk (Kd.N_below HN.out hb5)
    have HB5 := Aside0.mk (below_step HB.out hb5)
    have HOW := Aside0.mk (fun j (e_ : Value.ownBlock (.slice Ao D.length co) = some j) => Kd.N_lt HN.out j e_)
    have DE := Aside0.mk hDe
    have GE := Aside0.mk hGe
    clear hN5 hb5 HSEG HN hDe hGe P2
    rw [show (foldP (l0.take f)).1.length = D.length from by rw [DE.out]]
    go_upto_region 14 with ((with_reducible refine gate_builtin (b := .append) (xs := #[.tmp 26, .tmp 31]) rfl ?_); at_builtin; refine Kd.N_append_rows k30 (w0 := w) w.heap.size rfl (.tmp 26) (.tmp 31) 23 30 (.agg #[(.int .u8 0), (.int .i64 0), (.slice none 0 0), (.slice none 0 0), (.slice none 0 0)]) 88 rfl Try.underlying23 info30 rfl (by decide) (by omega) (.slice Ao D.length co) D G A5 G.length c5 (fun _ => True) (fun j => okI j ∨ wr.heap.size ≤ j) rfl rfl HN5.out HF5.out (okp_R HN5.out HOI.out HOW.out) (fun _ _ => trivial) HB5.out HB5.out.size (by omega) ?_; intro v6 w6 hN1 hB1 hg1 hat1; obtain ⟨L6, hL6⟩ : ∃ L_, L_ = D ++ G := ⟨_, rfl⟩; rw [← hL6] at hN1; have HL6 := Aside0.mk hL6; clear hL6; obtain ⟨A6, c6, rfl⟩ := Kd.N_slice hN1; have HN6 := Aside0.mk hN1; have HB6 := Aside0.mk hB1; clear hN1 hB1 hg1 hat1)
    have hLe : L6 = (foldP l0).1 ++ gapP (foldP l0).2.1 (foldP l0).2.2 := by
     have h1 := P1.out
     have h2 := GE.out
     rw [List.take_length] at h1 h2
     rw [HL6.out, ← DE.out, ← h1, ← h2]
    have hsm : ∀ x ∈ L6, x.f2.length ≤ 1000000 ∧ x.f3.length ≤ 1000000 ∧ x.f4.length ≤ 1000000 := by
     rw [hLe]
     exact small_of (StOk.fold0 l0 H34.out) (by have := HT.out; omega)
    have hof : ofP l0 = match L6.getLast? with
      | some o => if o.f0 = 1 ∧ o.f4.length = 0 then L6.dropLast else L6
      | none => L6 := by rw [hLe]; rfl
    have hll : L6.length ≤ 1000000 := by rw [HL6.out, List.length_append]; omega
    have HOF := Aside0.mk hof
    have HSM := Aside0.mk hsm
    have HLL := Aside0.mk hll
    clear hLe hof hsm P1 DE GE HL6
    by_cases hL0 : L6 = []
    ·subst hL0
     have hw1 : wrap64 ((0 : Int) - 1) = -1 := w64 _ (by omega)
     go_wp2_with fail
     refine (refCopy_calls A6 c6 [] w6 (Kd.N_reads' HN6.out).2.2 (Nat.zero_le _) (by simp) (by simp)).mono ?_
     rintro e w7 ⟨v7, rfl, hS, hb⟩
     have HS7 := Aside0.mk (Kd.S_lower hS HB6.out.size)
     have HB7 := Aside0.mk (below_step HB6.out hb)
     clear hS hb
     go_wp2_with fail
     go_ret
     refine ⟨_, rfl, ?_, HB7.out⟩
     rw [HOF.out]
     exact HS7.out
    ·obtain ⟨m, o, hm, hom, hgl, hdl, _⟩ := last_split L6 hL0
     have hpos : 0 < L6.length := by omega
     have hge1 : (1 : Int) ≤ (L6.length : Int) := by omega
     have hge2 : ¬ ((L6.length : Int) < 1) := by omega
     have hge3 : decide ((1 : Int) ≤ (L6.length : Int)) = true := decide_eq_true hge1
     have hge4 : decide ((0 : Int) ≤ (L6.length : Int) - 1) = true := decide_eq_true (by omega)
     obtain rfl : m = L6.length - 1 := by omega
     have qm : (L6.length : Int) - 1 < (L6.length : Int) := by omega
     have qm0 : (0 : Int) ≤ (L6.length : Int) - 1 := by omega
     have hml : L6.length - 1 ≤ L6.length := by omega
     obtain ⟨gD, capD, hvD, _, hgl2, cellsD, hcD⟩ := Kd.N_form HN6.out (by omega)
     injection hvD with hA1 hlen_ hc1
     clear hlen_
     subst hA1
     subst hc1
     obtain ⟨ce, _, hFK, hcc, _⟩ := Kd.N_elem HN6.out z30 ((L6.length - 1 : Nat) : Int) (by omega) (by omega)
     have hgetD : L6.getD ((L6.length - 1 : Nat) : Int).toNat z30 = o := by rw [Int.toNat_natCast, List.getD_eq_getElem?_getD, hom]; rfl
     rw [hgetD] at hFK
     obtain ⟨B2, d2, B3, d3, B4, d4, rfl, _, _, _, _, hl4, hF4⟩ := k30_openF hFK
     have e0 : w6.cell? ⟨gD, (L6.length - 1) * 5, none⟩ = some (.int .u8 o.f0) := hcc 0 _ rfl
     have e4 : w6.cell? ⟨gD, (L6.length - 1) * 5 + 4, none⟩ = some (.slice B4 o.f4.length d4) := hcc 4 _ rfl
     have HGL := Aside0.mk hgl
     have HDL := Aside0.mk hdl
     have HML := Aside0.mk hml
     clear hFK hcc hgetD hl4 hF4 hcD hgl hdl hom hm hgl2
     by_cases hk1 : o.f0 = 1
     ·have hkb : (o.f0 == 1) = true := beq_iff_eq.2 hk1
      by_cases hp : o.f4.length = 0
      ·have hpb : ((o.f4.length : Int) == 0) = true := beq_iff_eq.2 (by omega)
       have hNT := Kd.N_take (m := L6.length - 1) HN6.out hml
       have hlt2 : (L6.take (L6.length - 1)).length = L6.length - 1 := by rw [List.length_take]; omega
       have hC4 := refCopy_calls (some ⟨gD, 0, none⟩) c6 (L6.take (L6.length - 1)) w6 (Kd.N_reads' hNT).2.2 (by have h_ := (Kd.N_reads' hNT).2.1; rw [hlt2]; exact h_) (by rw [hlt2]; omega) (fun x hx => HSM.out x (List.mem_of_mem_take hx))
       rw [hlt2] at hC4
       have HC4 := Aside0.mk hC4
       have hcm : L6.length - 1 ≤ c6 := (Kd.N_reads' hNT).2.1
       have HK1 := Aside0.mk hk1
       have HP := Aside0.mk hp
       clear hNT hlt2 hC4 hk1
       rw [hp] at e4
       clear hp
       go_wp2_with fail
       refine HC4.out.mono ?_
       rintro e w7 ⟨v7, rfl, hS, hb⟩
       have HS7 := Aside0.mk (Kd.S_lower hS HB6.out.size)
       have HB7 := Aside0.mk (below_step HB6.out hb)
       clear hS hb
       go_wp2_with fail
       go_ret
       refine ⟨_, rfl, ?_, HB7.out⟩
       rw [HOF.out]
       simp only [HGL.out]
       rw [if_pos ⟨HK1.out, HP.out⟩, HDL.out]
       exact HS7.out
      ·have hpb : ((o.f4.length : Int) == 0) = false := beq_eq_false_iff_ne.2 (by omega)
       have HP := Aside0.mk hp
       clear hk1 hp
       go_wp2_with fail
       refine (refCopy_calls (some ⟨gD, 0, none⟩) c6 L6 w6 (Kd.N_reads' HN6.out).2.2 (Kd.N_reads' HN6.out).2.1 (by have := HLL.out; omega) HSM.out).mono ?_
       rintro e w7 ⟨v7, rfl, hS, hb⟩
       have HS7 := Aside0.mk (Kd.S_lower hS HB6.out.size)
       have HB7 := Aside0.mk (below_step HB6.out hb)
       clear hS hb
       go_wp2_with fail
       go_ret
       refine ⟨_, rfl, ?_, HB7.out⟩
       rw [HOF.out]
       simp only [HGL.out]
       rw [if_neg (fun h => HP.out h.2)]
       exact HS7.out
     ·have hkb : (o.f0 == 1) = false := beq_eq_false_iff_ne.2 hk1
      have HK1 := Aside0.mk hk1
      clear hk1
      go_wp2_with fail
      refine (refCopy_calls (some ⟨gD, 0, none⟩) c6 L6 w6 (Kd.N_reads' HN6.out).2.2 (Kd.N_reads' HN6.out).2.1 (by have := HLL.out; omega) HSM.out).mono ?_
      rintro e w7 ⟨v7, rfl, hS, hb⟩
      have HS7 := Aside0.mk (Kd.S_lower hS HB6.out.size)
      have HB7 := Aside0.mk (below_step HB6.out hb)
      clear hS hb
      go_wp2_with fail
      go_ret
      refine ⟨_, rfl, ?_, HB7.out⟩
      rw [HOF.out]
      simp only [HGL.out]
      rw [if_neg (fun h => HK1.out h.1)]
      exact HS7.out
end Go.Proofs.Ytmjeoknamoegpaa.P
namespace Go.Proofs.Ytmjeoknamoegpaa.P
open Go.RowKit Go.Proofs.YtmjeoknamoegpaaW.PrintWords Go.Proofs.YtmjeoknamoegpaaW.PrintLast Go.Proofs.YtmjeoknamoegpaaW.PrintMore
set_option linter.unusedVariables false
set_option linter.unusedSimpArgs false
/-! ### normal_Is: function 13 -/
def normal_Is.f (l0 : List (S30)) : Option (Bool) := (normal_Of.f l0).bind fun t294 => ((ops_Same.f t294 l0).bind fun t297 => (some t297))
set_option maxHeartbeats 8000000 in
set_option maxRecDepth 100000 in
theorem normal_Is.calls (A0 : Option Addr) (c0 : Nat) (l0 : List (S30)) (r : Bool) (w : World) (hr0 : Kd.C k30 w A0 l0.length l0) (hc0 : l0.length ≤ c0) (h : normal_Is.f l0 = some r) :
  Calls Try.prog 13 #[.slice A0 l0.length c0] w fun e w' => e = .returned (.bool r) ∧ Below w.heap.size w w' := by
 have HR0 := Aside0.mk hr0
 have HC0 := Aside0.mk hc0
 clear hr0 hc0
 have HB := Aside0.mk (Below.refl w.heap.size w)
 have H : ((normal_Of.f l0).bind fun t294 => ((ops_Same.f t294 l0).bind fun t297 => (some t297))) = some r := h
 clear h
 replace H := Option.bind_eq_some_iff.mp H
 obtain ⟨t294, A20, H⟩ := H
 replace H : ((ops_Same.f t294 l0).bind fun t297 => (some t297)) = some r := H
 have A2 := Aside0.mk A20
 clear A20
 replace H := Option.bind_eq_some_iff.mp H
 obtain ⟨t297, A30, H⟩ := H
 replace H : (some t297) = some r := H
 have A3 := Aside0.mk A30
 clear A30
 obtain rfl := Option.some.inj H
 go_enter Try.func13, Try.ntmps13
 go_wp2_with (first | ((with_reducible refine gate_callee (f := 12) rfl ?_); refine goesL_ (some 4) rfl rfl Try.func12 (by kernel_rfl) rfl #[.slice A0 l0.length c0] rfl (by (try simp only [List.map_toArray, List.map_cons, List.map_nil]); first | done | rfl | (simp only [List.length_drop, List.length_take]; rfl)) ?_; (with_reducible refine (normal_Of.calls _ _ l0 t294 _ ?side1 ?side2 A2.out).mono ?_); (case side1 => repeat (first | exact HR0.out | (with_reducible refine Kd.C_alloc ?_ _) | (with_reducible refine Kd.C_drewN ?_ _) | (with_reducible refine Kd.C_drew ?_))); (case side2 => exact HC0.out); rintro e w4 ⟨v295, rfl, ho0, hb⟩; refine ⟨_, rfl, ?_⟩; have n0_ := Aside0.mk (Kd.S_lower ho0 (below_size (by repeat (first | (with_reducible first | exact HB.out | apply below_alloc | apply pw_below_drewN | apply below_drew1) | exact HB.out | exact Below.refl _ _)))); have n1_ := Aside0.mk (below_step (by repeat (first | (with_reducible first | exact HB.out | apply below_alloc | apply pw_below_drewN | apply below_drew1) | exact HB.out | exact Below.refl _ _)) hb); clear HB; have HO296 := n0_; have HB := n1_; clear n0_ n1_; (try clear hb); (try clear hb2); (try clear hk); (try clear hi); (try clear ho0); obtain ⟨Ao5, co5, eo5⟩ := Kd.S_slice HO296.out; subst eo5) | ((with_reducible refine gate_callee (f := 11) rfl ?_); refine goesL_ (some 6) rfl rfl Try.func11 (by kernel_rfl) rfl #[.slice Ao5 t294.length co5, .slice A0 l0.length c0] rfl (by (try simp only [List.map_toArray, List.map_cons, List.map_nil]); first | done | rfl | (simp only [List.length_drop, List.length_take]; rfl)) ?_; (with_reducible refine (ops_Same.calls _ _ t294 _ _ l0 t297 _ ?side1 ?side2 ?side3 ?side4 A3.out).mono ?_); (case side1 => repeat (first | exact (Kd.S_reads' HO296.out).2.2 | (with_reducible refine Kd.C_alloc ?_ _) | (with_reducible refine Kd.C_drewN ?_ _) | (with_reducible refine Kd.C_drew ?_))); (case side2 => exact (Kd.S_reads' HO296.out).2.1); (case side3 => repeat (first | exact (Kd.C_below HR0.out HB.out) | (with_reducible refine Kd.C_alloc ?_ _) | (with_reducible refine Kd.C_drewN ?_ _) | (with_reducible refine Kd.C_drew ?_))); (case side4 => exact HC0.out); rintro e w6 ⟨rfl, hb⟩; refine ⟨_, rfl, ?_⟩; have n0_ := Aside0.mk (Kd.S_below (by (with_reducible repeat (first | apply Kd.S_alloc | apply Kd.S_drewN | apply Kd.S_drew)); exact HO296.out) hb); have n1_ := Aside0.mk (below_step (by repeat (first | (with_reducible first | exact HB.out | apply below_alloc | apply pw_below_drewN | apply below_drew1) | exact HB.out | exact Below.refl _ _)) hb); clear HO296; clear HB; have HO296 := n0_; have HB := n1_; clear n0_ n1_; (try clear hb); (try clear hb2); (try clear hk); (try clear hi)))
 go_ret
 exact ⟨by first | rfl | (simp [errW_none, errW_some] <;> rfl) | (simp [*, errW_none, errW_some] <;> rfl), by repeat (first | (with_reducible first | exact HB.out | apply below_alloc | apply pw_below_drewN | apply below_drew1) | exact HB.out | exact Below.refl _ _)⟩
end Go.Proofs.Ytmjeoknamoegpaa.P
namespace Go.Proofs.Ytmjeoknamoegpaa.P
open Go.RowKit Go.Proofs.YtmjeoknamoegpaaW.PrintWords Go.Proofs.YtmjeoknamoegpaaW.PrintLast Go.Proofs.YtmjeoknamoegpaaW.PrintMore
set_option linter.unusedVariables false
set_option linter.unusedSimpArgs false
def dl (o : S30) : Int := if o.f0 = 3 then o.f1 else 0
def del (l : List S30) : Int := (l.map dl).sum
theorem tot_app (a b : List S30) : tot (a ++ b) = tot a + tot b := by simp [tot]
theorem tot_one (o : S30) : tot [o] = o.f2.length := by simp [tot]
theorem tot_cons (o : S30) (l : List S30) : tot (o :: l) = o.f2.length + tot l := by simp [tot]
theorem del_app (a b : List S30) : del (a ++ b) = del a + del b := by simp [del]
theorem del_one (o : S30) : del [o] = dl o := by simp [del]
theorem del_cons (o : S30) (l : List S30) : del (o :: l) = dl o + del l := by simp [del]
def flat (s : Stt) : List S30 := s.1 ++ gapP s.2.1 s.2.2
theorem tot_gap (I : List S30) (g : Int) : tot (gapP I g) = tot I := by
 unfold gapP; split
 ·rw [tot_app, tot_one]; rfl
 ·rfl
theorem del_gap (I : List S30) (g : Int) (h0 : 0 ≤ g) : del (gapP I g) = del I + g := by
 unfold gapP; split
 ·rw [del_app, del_one]; rfl
 ·omega
theorem split_last {l : List S30} {o : S30} (h : l.getLast? = some o) : l = l.dropLast ++ [o] := by
 have hn : l ≠ [] := fun h2 => by subst h2; cases h
 have e := List.dropLast_concat_getLast hn
 rw [List.getLast?_eq_some_getLast hn] at h
 rw [Option.some.inj h] at e
 exact e.symm
theorem retainP_sums (n : Int) (pt : List S42) (D I : List S30) (g : Int) : tot (retainP n pt D I g) = tot (D ++ gapP I g) ∧ del (retainP n pt D I g) = del (D ++ gapP I g) ∧ (retainP n pt D I g).length ≤ (D ++ gapP I g).length + 1 := by
 unfold retainP
 generalize D ++ gapP I g = L
 split
 ·rename_i o ho
  split
  ·rename_i hc
   have e := split_last ho
   have e1 := congrArg tot e
   have e2 := congrArg del e
   have e3 := congrArg List.length e
   rw [tot_app, tot_one] at e1
   rw [del_app, del_one] at e2
   rw [List.length_append, List.length_singleton] at e3
   rw [tot_app, tot_one, del_app, del_one, List.length_append, List.length_singleton, e1, e2]
   refine ⟨rfl, ?_, by omega⟩
   unfold dl
   simp only
   rw [if_neg (by omega), if_neg (by omega)]
  ·rw [tot_app, tot_one, del_app, del_one, List.length_append, List.length_singleton]
   refine ⟨rfl, ?_, Nat.le_refl _⟩
   show del L + dl _ = del L
   unfold dl; simp
 ·rw [tot_app, tot_one, del_app, del_one, List.length_append, List.length_singleton]
  refine ⟨rfl, ?_, Nat.le_refl _⟩
  show del L + dl _ = del L
  unfold dl; simp
theorem insertP_sums (l : List Int) (set : List S40) (I : List S30) : tot (insertP l set I) = tot I + l.length ∧ del (insertP l set I) = del I ∧ (insertP l set I).length ≤ I.length + 1 := by
 unfold insertP
 split
 ·rename_i o ho
  split
  ·have e := split_last ho
   have e1 := congrArg tot e
   have e2 := congrArg del e
   have e3 := congrArg List.length e
   rw [tot_app, tot_one] at e1
   rw [del_app, del_one] at e2
   rw [List.length_append, List.length_singleton] at e3
   rw [tot_app, tot_one, del_app, del_one]
   refine ⟨by simp only [List.length_append]; omega, ?_, by simp only [List.length_append, List.length_singleton]; omega⟩
   rw [e2]; rfl
  ·rw [tot_app, tot_one, del_app, del_one, List.length_append, List.length_singleton]
   refine ⟨rfl, ?_, Nat.le_refl _⟩
   unfold dl; simp
 ·rename_i hn
  rw [List.getLast?_eq_none_iff] at hn
  subst hn
  rw [tot_one, del_one]
  refine ⟨by simp [tot], ?_, by simp⟩
  unfold dl; simp [del]
theorem gapP_length_mono (I J : List S30) (g : Int) (h : J.length ≤ I.length + 1) : (gapP J g).length ≤ (gapP I g).length + 1 := by
 unfold gapP
 split
 ·simp only [List.length_append, List.length_singleton]; omega
 ·exact h
theorem step_sums {s : Stt} {k : Nat} (h : NS s k) (o : S30) (ho : OkO o) (hk : k ≤ 100000) : tot (flat (stepP s o)) = tot (flat s) + o.f2.length ∧ del (flat (stepP s o)) = del (flat s) + dl o ∧ (flat (stepP s o)).length ≤ (flat s).length + 1 := by
 obtain ⟨D, I, g⟩ := s
 obtain ⟨hD, hI, ⟨h0, h1⟩, hb⟩ := h
 simp only at hD hI h0 h1 hb
 unfold stepP flat
 rcases ho with ⟨a0, a2, a3, a1, a1'⟩ | ⟨a0, a2, a3, a4, a1, a1'⟩ | ⟨a0, a1, a4, a2⟩
 ·rw [if_pos a0, if_neg (by omega)]
  obtain ⟨e1, e2, e3⟩ := retainP_sums o.f1 o.f4 D I g
  simp only [gapP_0, List.append_nil]
  refine ⟨by rw [e1, a2]; rfl, ?_, e3⟩
  rw [e2]; unfold dl; rw [if_neg (by omega)]; omega
 ·rw [if_neg (by omega), if_neg (by omega), deleteP_ok o.f1 g k hk h0 h1 a1 a1']
  simp only [tot_app, del_app, tot_gap, List.length_append]
  rw [del_gap _ _ (by omega), del_gap _ _ h0, a2]
  refine ⟨rfl, ?_, ?_⟩
  ·unfold dl; rw [if_pos a0]; omega
  ·unfold gapP
   split <;> split <;> (try simp only [List.length_append, List.length_singleton]) <;> omega
 ·rw [if_neg (by omega), if_pos a0, if_neg a2]
  obtain ⟨e1, e2, e3⟩ := insertP_sums o.f2 o.f3 I
  have e4 := gapP_length_mono I (insertP o.f2 o.f3 I) g e3
  simp only [tot_app, del_app, tot_gap, List.length_append]
  rw [del_gap _ _ h0, del_gap _ _ h0, e1, e2]
  refine ⟨by omega, ?_, by omega⟩
  unfold dl; rw [if_neg (by omega)]; omega
theorem fold_sums : ∀ (l : List S30) (s : Stt) (k : Nat), NS s k → (∀ o ∈ l, OkO o) → k + l.length ≤ 100000 → tot (flat (l.foldl stepP s)) = tot (flat s) + tot l ∧ del (flat (l.foldl stepP s)) = del (flat s) + del l ∧ (flat (l.foldl stepP s)).length ≤ (flat s).length + l.length
 | [], s, k, h, _, _ => by simp [tot, del]
 | o :: l, s, k, h, ho, hk => by
  simp only [List.length_cons] at hk
  obtain ⟨a1, a2, a3⟩ := step_sums h o (ho o (by simp)) (by omega)
  obtain ⟨b1, b2, b3⟩ := fold_sums l (stepP s o) (k + 1) (h.step o (ho o (by simp)) (by omega)) (fun x hx => ho x (by simp [hx])) (by omega)
  rw [List.foldl_cons, b1, b2, a1, a2, tot_cons, del_cons, List.length_cons]
  exact ⟨by omega, by omega, by omega⟩
theorem InsOk.two {I : List S30} (h : InsOk I) : ∀ x ∈ I, x.f0 = 2 := by
 induction h with
 | nil => intro x hx; cases hx
 | snoc J x _ h0 _ _ _ _ ih =>
  intro y hy
  rcases List.mem_append.1 hy with hy | hy
  ·exact ih y hy
  ·rw [List.mem_singleton.1 hy]; exact h0
theorem Dn.f2 {D : List S30} (h : Dn D) : ∀ x ∈ D, x.f0 = 1 → x.f2 = [] := by
 induction h with
 | nil => intro x hx; cases hx
 | ret D I g r hD hI h0 h1 h2 h3 h4 h5 h6 ih =>
  intro x hx hx1
  rcases List.mem_append.1 hx with hx | hx
  ·rcases List.mem_append.1 hx with hx | hx
   ·exact ih x hx hx1
   ·rcases gapP_mem hx with hx | rfl
    ·rw [hI.two x hx] at hx1; exact absurd hx1 (by decide)
    ·exact absurd hx1 (by simp)
  ·rw [List.mem_singleton.1 hx]; exact h4
theorem opsP_sub (D I : List S30) (g : Int) : ∀ x ∈ opsP D I g, x ∈ D ++ gapP I g := by
 intro x hx
 unfold opsP at hx
 split at hx
 ·split at hx
  ·exact List.dropLast_subset _ hx
  ·exact hx
 ·exact hx
theorem ops_sums {s : Stt} {k : Nat} (h : NS s k) : tot (opsP s.1 s.2.1 s.2.2) = tot (flat s) ∧ del (opsP s.1 s.2.1 s.2.2) = del (flat s) ∧ (opsP s.1 s.2.1 s.2.2).length ≤ (flat s).length := by
 obtain ⟨D, I, g⟩ := s
 obtain ⟨hD, hI, ⟨h0, h1⟩, hb⟩ := h
 simp only at hD hI h0 h1 hb ⊢
 unfold opsP flat
 simp only
 split
 ·rename_i o ho
  split
  ·rename_i hc
   have e := split_last ho
   have e1 : tot (D ++ gapP I g) = tot (D ++ gapP I g).dropLast + o.f2.length := (congrArg tot e).trans (by rw [tot_app, tot_one])
   have e2 : del (D ++ gapP I g) = del (D ++ gapP I g).dropLast + dl o := (congrArg del e).trans (by rw [del_app, del_one])
   have ho2 : o.f2 = [] := by
    rcases List.mem_append.1 (List.mem_of_getLast? ho) with hm | hm
    ·exact hD.f2 o hm hc.1
    ·rcases gapP_mem hm with hm | rfl
     ·have := hI.two o hm; have := hc.1; omega
     ·rfl
   rw [ho2] at e1
   refine ⟨by rw [e1]; rfl, ?_, by rw [List.length_dropLast]; omega⟩
   rw [e2]; unfold dl; rw [if_neg (by have := hc.1; omega)]; omega
  ·exact ⟨rfl, rfl, Nat.le_refl _⟩
 ·exact ⟨rfl, rfl, Nat.le_refl _⟩
theorem ofP_sums (l : List S30) (ho : ∀ o ∈ l, OkO o) (hl : l.length ≤ 100000) : tot (ofP l) = tot l ∧ del (ofP l) = del l ∧ (ofP l).length ≤ l.length := by
 obtain ⟨a1, a2, a3⟩ := fold_sums l ([], [], 0) 0 ⟨Dn.nil, InsOk.nil, ⟨by simp, by simp⟩, by simp⟩ ho (by omega)
 obtain ⟨b1, b2, b3⟩ := ops_sums (NS.of l ho hl)
 have e0 : flat (([], [], 0) : Stt) = [] := by simp [flat, gapP]
 rw [e0] at a1 a2 a3
 unfold ofP
 show tot (opsP (foldP l).1 (foldP l).2.1 (foldP l).2.2) = _ ∧ _
 refine ⟨by rw [b1]; show tot (flat (l.foldl stepP _)) = _; rw [a1]; simp [tot], ?_, ?_⟩
 ·show del (opsP (foldP l).1 (foldP l).2.1 (foldP l).2.2) = _
  rw [b2]; show del (flat (l.foldl stepP _)) = _; rw [a2]; simp [del]
 ·show (opsP (foldP l).1 (foldP l).2.1 (foldP l).2.2).length ≤ _
  refine Nat.le_trans b3 ?_
  show (flat (l.foldl stepP _)).length ≤ _
  simpa using a3
/-! ### a tame delta's form, and its form's -/
theorem small_sz {x : List S30} (h : sz x ≤ 20000) : x.length ≤ 20000 ∧ tot x ≤ 20000 ∧ ∀ o ∈ x, o.f3.length ≤ 20000 ∧ o.f4.length ≤ 20000 := by
 refine ⟨Nat.le_trans (len_sz x) h, ?_, fun o ho => ?_⟩
 ·refine Nat.le_trans ?_ h
  clear h
  induction x with
  | nil => simp [tot]
  | cons o l ih =>
   have hO : szO o = 1 + o.f2.length + o.f3.length + o.f4.length + strA o.f3 + strC o.f4 := rfl
   rw [tot_cons, sz_cons]; omega
 ·have h1 := sz_mem ho
  have hO : szO o = 1 + o.f2.length + o.f3.length + o.f4.length + strA o.f3 + strC o.f4 := rfl
  omega
theorem ofP_mem34 (l : List S30) (n : Nat) (h : ∀ o ∈ l, o.f3.length ≤ n ∧ o.f4.length ≤ n) : ∀ o ∈ ofP l, o.f3.length ≤ n ∧ o.f4.length ≤ n := by
 have hf : ∀ (l : List S30) (s : Stt), (∀ o ∈ l, o.f3.length ≤ n ∧ o.f4.length ≤ n) → (∀ o ∈ s.1 ++ s.2.1, o.f3.length ≤ n ∧ o.f4.length ≤ n) → ∀ o ∈ (l.foldl stepP s).1 ++ (l.foldl stepP s).2.1, o.f3.length ≤ n ∧ o.f4.length ≤ n := by
  intro l
  induction l with
  | nil => intro s _ hs; exact hs
  | cons o l ih =>
   intro s hl hs
   refine ih (stepP s o) (fun x hx => hl x (by simp [hx])) ?_
   have ho := hl o (by simp)
   obtain ⟨D, I, g⟩ := s
   simp only at hs
   have hG : ∀ x ∈ D ++ gapP I g, x.f3.length ≤ n ∧ x.f4.length ≤ n := by
    intro x hx
    rcases List.mem_append.1 hx with hx | hx
    ·exact hs x (List.mem_append_left _ hx)
    ·rcases gapP_mem hx with hx | rfl
     ·exact hs x (List.mem_append_right _ hx)
     ·simp
   unfold stepP
   split
   ·split
    ·exact hs
    ·intro x hx
     simp only [List.append_nil] at hx
     unfold retainP at hx
     split at hx
     ·rename_i b hb
      split at hx
      ·rcases List.mem_append.1 hx with hx | hx
       ·exact hG x (List.dropLast_subset _ hx)
       ·rw [List.mem_singleton.1 hx]; exact hG b (List.mem_of_getLast? hb)
      ·rcases List.mem_append.1 hx with hx | hx
       ·exact hG x hx
       ·rw [List.mem_singleton.1 hx]; exact ⟨by simp, ho.2⟩
     ·rcases List.mem_append.1 hx with hx | hx
      ·exact hG x hx
      ·rw [List.mem_singleton.1 hx]; exact ⟨by simp, ho.2⟩
   ·split
    ·split
     ·exact hs
     ·intro x hx
      simp only at hx
      rcases List.mem_append.1 hx with hx | hx
      ·exact hs x (List.mem_append_left _ hx)
      ·unfold insertP at hx
       split at hx
       ·rename_i b hb
        split at hx
        ·rcases List.mem_append.1 hx with hx | hx
         ·exact hs x (List.mem_append_right _ (List.dropLast_subset _ hx))
         ·rw [List.mem_singleton.1 hx]; exact hs b (List.mem_append_right _ (List.mem_of_getLast? hb))
        ·rcases List.mem_append.1 hx with hx | hx
         ·exact hs x (List.mem_append_right _ hx)
         ·rw [List.mem_singleton.1 hx]; exact ⟨ho.1, by simp⟩
       ·rw [List.mem_singleton.1 hx]; exact ⟨ho.1, by simp⟩
    ·exact hs
 intro o ho
 have h2 := opsP_sub _ _ _ o ho
 have h3 := hf l ([], [], 0) h (by simp)
 rcases List.mem_append.1 h2 with h2 | h2
 ·exact h3 o (List.mem_append_left _ h2)
 ·rcases gapP_mem h2 with h2 | rfl
  ·exact h3 o (List.mem_append_right _ h2)
  ·simp
theorem form_small {x : List S30} (h : sz x ≤ 20000) (ho : ∀ o ∈ x, OkO o) : (ofP x).length ≤ 20000 ∧ tot (ofP x) ≤ 20000 ∧ ∀ o ∈ ofP x, o.f3.length ≤ 20000 ∧ o.f4.length ≤ 20000 := by
 obtain ⟨h1, h2, h3⟩ := small_sz h
 obtain ⟨a1, a2, a3⟩ := ofP_sums x ho (by omega)
 exact ⟨by omega, by omega, ofP_mem34 x 20000 h3⟩
end Go.Proofs.Ytmjeoknamoegpaa.P
namespace Go.Proofs.Ytmjeoknamoegpaa.P
open Go.RowKit Go.Proofs.YtmjeoknamoegpaaW.PrintWords Go.Proofs.YtmjeoknamoegpaaW.PrintLast Go.Proofs.YtmjeoknamoegpaaW.PrintMore
set_option linter.unusedVariables false
set_option linter.unusedSimpArgs false
/-- ref.Of, at what is read. -/
theorem refOf_calls (A0 : Option Addr) (c0 : Nat) (l0 : List S30) (w : World) (hr0 : Kd.C k30 w A0 l0.length l0) (hc0 : l0.length ≤ c0) (hz : sz l0 ≤ 20000) (hok : ∀ o ∈ l0, OkO o) :
  Calls Try.prog 17 #[.slice A0 l0.length c0] w fun e w' => ∃ v0_ : Value, e = .returned (v0_) ∧ Kd.S k30 30 w' w.heap.size (fun _ => True) v0_ (ofP l0) ∧ Below w.heap.size w w' :=
 of17 _ A0 c0 l0 w (fun _ h => h) (Kd.C_F k30_heap hr0) hc0 (by have := (small_sz hz).1; omega) (by have := (small_sz hz).2.1; omega) hok (fun o ho => by have := (small_sz hz).2.2 o ho; omega)
/-! ### whole numbers written over, from block B on -/
/-- From W to W' nothing below B is turned, and of the rest whole numbers alone, each by one of its kind. -/
structure SK (B : Nat) (W W' : World) : Prop where
 below : Below B W W'
 int : ∀ p kd x, W.cell? p = some (.int kd x) → ∃ y, W'.cell? p = some (.int kd y)
 rest : ∀ p v, W.cell? p = some v → (∀ kd x, v ≠ .int kd x) → W'.cell? p = some v
 frozen : ∀ p : Addr, p.block < W.heap.size → W'.frozen? p = W.frozen? p
theorem SK.refl (B : Nat) (W : World) : SK B W W := ⟨Below.refl _ _, fun _ _ x h => ⟨x, h⟩, fun _ _ h _ => h, fun _ _ => rfl⟩
theorem SK.put {B : Nat} {W W1 : World} (h : SK B W W1) {p : Addr} {kd : IntKind} {x : Int} (hp : B ≤ p.block) (hc : W1.cell? p = some (.int kd x)) (y : Int) : SK B W (W1.setCell p (.int kd y)) := by
 refine ⟨h.below.setCell hp _, fun q kd2 z hq => ?_, fun q v hq hv => ?_, fun q hq => by rw [World.frozen?_setCell]; exact h.frozen q hq⟩
 ·obtain ⟨z2, hz2⟩ := h.int q kd2 z hq
  by_cases e : p = q
  ·subst e
   rw [hc] at hz2
   injection hz2 with hz2
   injection hz2 with e1 _
   subst e1
   exact ⟨y, World.cell?_setCell_same _ _ _ hc⟩
  ·exact ⟨z2, by rw [World.cell?_setCell_other _ _ _ _ e]; exact hz2⟩
 ·have h2 := h.rest q v hq hv
  by_cases e : p = q
  ·subst e
   rw [hc] at h2
   injection h2 with h2
   exact absurd h2.symm (hv kd x)
  ·rw [World.cell?_setCell_other _ _ _ _ e]; exact h2
theorem SK.up {B : Nat} {W W1 W2 : World} (h : SK B W W1) (hz : B ≤ W.heap.size) (hb : Below W1.heap.size W1 W2) : SK B W W2 := by
 refine ⟨below_then h.below (Nat.le_trans hz h.below.size) hb, fun p kd x hp => ?_, fun p v hp hv => ?_, fun p hp => ?_⟩
 ·obtain ⟨y, hy⟩ := h.int p kd x hp
  exact ⟨y, (hb.cell (World.block_lt_of_cell? _ _ hy)).trans hy⟩
 ·have hy := h.rest p v hp hv
  exact (hb.cell (World.block_lt_of_cell? _ _ hy)).trans hy
 ·exact (hb.frozen (Nat.lt_of_lt_of_le hp h.below.size)).trans (h.frozen p hp)
/-- A row of n pieces of sz cells each; each begins with a whole number that may be written over. -/
def RowI (W : World) (B : Nat) (A : Option Addr) (n sz : Nat) (kd : IntKind) : Prop := 0 < n → ∃ g, A = some ⟨g, 0, none⟩ ∧ B ≤ g ∧ ∀ j, j < n → ∃ x, W.cell? ⟨g, j * sz, none⟩ = some (.int kd x) ∧ W.frozen? ⟨g, j * sz, none⟩ = false
theorem RowI.of {α : Type} {d : Kd α} {e base : Nat} {ok : Nat → Prop} {w : World} {v : Value} {xs : List α} {kd : IntKind} (h : d.R e w base ok v xs) (z : α) (hM : ∀ x c ok, d.M w base ok x c → ∃ y, c[0]? = some (.int kd y)) : ∃ A c, v = .slice A xs.length c ∧ xs.length ≤ c ∧ RowI w base A xs.length d.sz kd := by
 obtain ⟨A, c, hv, hc, _⟩ := Kd.R_reads h
 refine ⟨A, c, hv, hc, fun hn => ?_⟩
 obtain ⟨g, c2, hv2, hb, _⟩ := Kd.R_form h hn
 rw [hv] at hv2
 injection hv2 with e1 _ e3
 subst e1
 subst hv
 refine ⟨g, rfl, hb, fun j hj => ?_⟩
 obtain ⟨cs, _, hm, hcc, hfr⟩ := Kd.R_elem h z (j : Int) (by omega) (by omega)
 obtain ⟨y, hy⟩ := hM _ _ _ hm
 exact ⟨y, hcc 0 _ hy, hfr 0⟩
/-- An op of a row of one's own. -/
theorem got_row {w : World} {base : Nat} {ok : Nat → Prop} {g n cap : Nat} {L : List S30} (h : Kd.S k30 30 w base ok (.slice (some ⟨g, 0, none⟩) n cap) L) (i : Nat) (hi : i < n) :
  ∃ (o : S30) (n2 n3 n4 : Nat) (A2 : Option Addr) (c2 : Nat) (A3 : Option Addr) (c3 : Nat) (A4 : Option Addr) (c4 : Nat), L[i]? = some o ∧ n2 = o.f2.length ∧ n3 = o.f3.length ∧ n4 = o.f4.length ∧ n2 ≤ c2 ∧ n3 ≤ c3 ∧ n4 ≤ c4 ∧
   w.cell? ⟨g, i * 5, none⟩ = some (.int .u8 o.f0) ∧ w.cell? ⟨g, i * 5 + 1, none⟩ = some (.int .i64 o.f1) ∧ w.frozen? ⟨g, i * 5 + 1, none⟩ = false ∧
   w.cell? ⟨g, i * 5 + 2, none⟩ = some (.slice A2 n2 c2) ∧ w.cell? ⟨g, i * 5 + 3, none⟩ = some (.slice A3 n3 c3) ∧ w.cell? ⟨g, i * 5 + 4, none⟩ = some (.slice A4 n4 c4) ∧
   RowI w base A2 n2 1 .i32 ∧ RowI w base A3 n3 5 .i64 ∧ RowI w base A4 n4 6 .i64 := by
 have hn := (Kd.S_reads' h).1
 obtain ⟨oki, c, hcl, hM, hcc, hfr, hoki, hH⟩ := Kd.S_elem h z30 (i : Int) (by omega) (by omega)
 obtain ⟨v2, v3, v4, rfl, h2, h3, h4⟩ := k30_openM hM
 obtain ⟨o, ho⟩ : ∃ o, L[i]? = some o := ⟨_, List.getElem?_eq_getElem (by omega)⟩
 have e : L.getD (i : Int).toNat z30 = o := by rw [Int.toNat_natCast, List.getD_eq_getElem?_getD, ho]; rfl
 rw [e] at h2 h3 h4 hcc
 clear hcl hM hH
 obtain ⟨A2, c2, rfl, a2, r2⟩ := RowI.of (kd := .i32) h2 0 (fun x c ok hm => ⟨x, by rw [show c = [.int .i32 x] from hm]; rfl⟩)
 obtain ⟨A3, c3, rfl, a3, r3⟩ := RowI.of (kd := .i64) h3 z40 (fun x c ok hm => ⟨x.f0, by rw [k40_openM hm]; rfl⟩)
 obtain ⟨A4, c4, rfl, a4, r4⟩ := RowI.of (kd := .i64) h4 z42 (fun x c ok hm => ⟨x.f0, by rw [k42_openM hm]; rfl⟩)
 exact ⟨o, _, _, _, A2, c2, A3, c3, A4, c4, ho, rfl, rfl, rfl, a2, a3, a4, hcc 0 _ rfl, hcc 1 _ rfl, hfr 1, hcc 2 _ rfl, hcc 3 _ rfl, hcc 4 _ rfl, r2, r3, r4⟩
end Go.Proofs.Ytmjeoknamoegpaa.P
namespace Go.Proofs.Ytmjeoknamoegpaa.P
open Go.RowKit Go.Proofs.YtmjeoknamoegpaaW.PrintWords Go.Proofs.YtmjeoknamoegpaaW.PrintLast Go.Proofs.YtmjeoknamoegpaaW.PrintMore
set_option linter.unusedVariables false
set_option linter.unusedSimpArgs false
def AnyI (w : World) (e : Ending) (w' : World) : Prop := (∃ r : Int, e = .returned (.int .i64 r)) ∧ Below w.heap.size w w'
def AnyB (w : World) (e : Ending) (w' : World) : Prop := (∃ r : Bool, e = .returned (.bool r)) ∧ Below w.heap.size w w'
theorem rd40_mem {l : List S40} {i : Nat} (h : i < l.length) : rd_T40 l (i : Int) ∈ l := by rw [show rd_T40 l (i : Int) = l[i] from by simp [rd_T40, h]]; exact List.getElem_mem h
theorem rd42_mem {l : List S42} {i : Nat} (h : i < l.length) : rd_T42 l (i : Int) ∈ l := by rw [show rd_T42 l (i : Int) = l[i] from by simp [rd_T42, h]]; exact List.getElem_mem h
set_option maxHeartbeats 4000000 in
set_option maxRecDepth 100000 in
theorem may05 (A0 : Option Addr) (c0 : Nat) (l0 : List S64) (A1 : Option Addr) (c1 : Nat) (l1 : List S40) (w : World) (hr0 : Kd.C k64 w A0 l0.length l0) (hc0 : l0.length ≤ c0) (hr1 : Kd.C k40 w A1 l1.length l1) (hc1 : l1.length ≤ c1) (hk : l0.length ≤ 20000) (hl : l1.length ≤ 20000) (hs : ∀ a ∈ l1, a.f1.f3.size ≤ 20000) :
  Calls Try.prog 42 #[.slice A0 l0.length c0, .slice A1 l1.length c1] w (AnyI w) := by
 have HR0 := Aside0.mk hr0
 have HC0 := Aside0.mk hc0
 have HR1 := Aside0.mk hr1
 have HC1 := Aside0.mk hc1
 have HS := Aside0.mk hs
 have HK := Aside0.mk hk
 obtain ⟨b, hb⟩ := rising05_some l1 hl 20001 (Nat.le_refl _)
 have HB_ := Aside0.mk hb
 clear hr0 hc0 hr1 hc1 hs hb hk
 go_enter Try.func42, Try.ntmps42
 go_wp2_with fail
 refine (rubricref05_Rising.calls 20001 A1 c1 l1 b w HR1.out HC1.out HB_.out).mono ?_
 rintro e w1 ⟨rfl, hb⟩
 have HB1 := Aside0.mk (Drawn0.below hb)
 clear hb HB_
 cases b with
 | false =>
  go_wp2_with fail
  go_ret
  exact ⟨⟨3, rfl⟩, HB1.out⟩
 | true =>
  by_cases h64 : (l1.length : Int) > 64
  ·go_wp2_with fail
   go_ret
   exact ⟨⟨3, rfl⟩, HB1.out⟩
  ·go_wp2_with fail
   go_loopw [5] (fun i wr => ∃ k : Nat, k ≤ l1.length ∧ i = .int .i64 k ∧ Aside0 (Below w.heap.size w wr)) (fun i _ => l1.length - (intOf i).toNat)
   case atStart => exact ⟨0, Nat.zero_le _, rfl, HB1⟩
   case round =>
    clear HB1
    obtain ⟨k, hk, rfl, HB⟩ := hrel
    by_cases hlt : k < l1.length
    ·obtain ⟨ad, rfl, e0, e1, e2, e3, e4⟩ := at_T40 (Kd.C_below HR1.out HB.out) (k : Int) (by omega) (by omega)
     simp only [Int.toNat_natCast] at e0 e1 e2 e3 e4
     have hki : (k : Int) < (l1.length : Int) := by omega
     have q0 : (0 : Int) ≤ (k : Int) := Int.natCast_nonneg k
     obtain ⟨b, hb⟩ := mayV_some (rd_T40 l1 (k : Int)).f1.f0 (rd_T40 l1 (k : Int)).f1.f1 (rd_T40 l1 (k : Int)).f1.f2 (rd_T40 l1 (k : Int)).f1.f3 (HS.out _ (rd40_mem hlt))
     have HV := Aside0.mk hb
     clear hb
     generalize rd_T40 l1 (k : Int) = x at e0 e1 e2 e3 e4 HV
     go_wp2_with fail
     refine (rubricref03_May.calls x.f1.f0 x.f1.f1 x.f1.f2 x.f1.f3 b _ HV.out).mono ?_
     rintro e w2 ⟨rfl, hb⟩
     have HB2 := Aside0.mk (below_step HB.out hb)
     clear hb HV e0 e1 e2 e3 e4
     cases b with
     | false =>
      go_wp2_with fail
      go_ret
      exact ⟨⟨3, rfl⟩, HB2.out⟩
     | true =>
      go_wp2_with fail
      go_roundw
      case rel => exact ⟨k + 1, by omega, by go_num, HB2⟩
      case measure => simp [intOf]; omega
    ·obtain rfl : k = l1.length := by omega
     go_wp2_with fail
     go_loopw [6] (fun i wr => ∃ k : Nat, k ≤ l1.length ∧ i = .int .i64 k ∧ Aside0 (Below w.heap.size w wr)) (fun i _ => l1.length - (intOf i).toNat)
     case atStart => exact ⟨0, Nat.zero_le _, rfl, HB⟩
     case round =>
      clear HB
      obtain ⟨k, hk, rfl, HB⟩ := hrel
      by_cases hlt : k < l1.length
      ·obtain ⟨ad, rfl, e0, e1, e2, e3, e4⟩ := at_T40 HR1.out (k : Int) (by omega) (by omega)
       simp only [Int.toNat_natCast] at e0 e1 e2 e3 e4
       have hki : (k : Int) < (l1.length : Int) := by omega
       have q0 : (0 : Int) ≤ (k : Int) := Int.natCast_nonneg k
       obtain ⟨b, hb⟩ := fits_some l0 (rd_T40 l1 (k : Int)).f0 (rd_T40 l1 (k : Int)).f1.f0 (rd_T40 l1 (k : Int)).f1.f1 (rd_T40 l1 (k : Int)).f1.f2 (rd_T40 l1 (k : Int)).f1.f3 (HS.out _ (rd40_mem hlt)) HK.out 20001 (Nat.le_refl _)
       have HV := Aside0.mk hb
       clear hb
       generalize rd_T40 l1 (k : Int) = x at e0 e1 e2 e3 e4 HV
       have EW : Aside0 (∀ W, Below w.heap.size w W → W.cell? (ad.add (k * 5)) = some (.int .i64 x.f0) ∧ W.cell? ⟨(ad.add (k * 5)).block, (ad.add (k * 5)).off + 1, none⟩ = some (.int .u8 x.f1.f0) ∧ W.cell? ⟨(ad.add (k * 5)).block, (ad.add (k * 5)).off + 2, none⟩ = some (.int .i64 x.f1.f1) ∧ W.cell? ⟨(ad.add (k * 5)).block, (ad.add (k * 5)).off + 3, none⟩ = some (.int .u64 x.f1.f2) ∧ W.cell? ⟨(ad.add (k * 5)).block, (ad.add (k * 5)).off + 4, none⟩ = some (.string x.f1.f3)) := ⟨fun W hW => ⟨(hW.cell (World.block_lt_of_cell? _ _ e0)).trans e0, (hW.cell (World.block_lt_of_cell? _ _ e1)).trans e1, (hW.cell (World.block_lt_of_cell? _ _ e2)).trans e2, (hW.cell (World.block_lt_of_cell? _ _ e3)).trans e3, (hW.cell (World.block_lt_of_cell? _ _ e4)).trans e4⟩⟩
       clear e0 e1 e2 e3 e4
       go_upto_region 11 with (fail)
       refine start_ (n := 13) (S := fun W => W.cell? (ad.add (k * 5)) = some (.int .i64 x.f0) ∧ W.cell? ⟨(ad.add (k * 5)).block, (ad.add (k * 5)).off + 1, none⟩ = some (.int .u8 x.f1.f0) ∧ W.cell? ⟨(ad.add (k * 5)).block, (ad.add (k * 5)).off + 2, none⟩ = some (.int .i64 x.f1.f1) ∧ W.cell? ⟨(ad.add (k * 5)).block, (ad.add (k * 5)).off + 3, none⟩ = some (.int .u64 x.f1.f2) ∧ W.cell? ⟨(ad.add (k * 5)).block, (ad.add (k * 5)).off + 4, none⟩ = some (.string x.f1.f3)) (ds := []) #[false, false, false, false, false, false, false, false, false, false, false, false, false] (by kernel_rfl) rfl rfl (EW.out _ (below_drew HB.out)) (fun hHeld => ?_)
       have hb := below_step HB.out (below_drew (Below.refl _ _))
       generalize World.drew _ = w7 at hb hHeld ⊢
       have HB8 := Aside0.mk hb
       clear hb
       refine pure_ (i := 0) (N := some 34) (v := ?_) (a' := ?_) #[true, false, false, false, false, false, false, false, false, false, false, false, false] rfl rfl (any_of rfl (by kernel_rfl)) (fun _ _ _ h => h) (Or.inl ⟨by rfl, ?_⟩) ?_ ?_
       rotate_left
       ·intro w'
        go_simp
        with_reducible rfl
       rotate_left
       ·simp only [Act.put, List.setIfInBounds_toArray, List.set_cons_zero, List.set_cons_succ, i64_w, i32_w]
        rfl
       refine pure_ (i := 1) (N := some 35) (v := ?_) (a' := ?_) #[true, true, false, false, false, false, false, false, false, false, false, false, false] rfl rfl (any_of rfl (by kernel_rfl)) (fun _ _ _ h => h) (Or.inl ⟨by rfl, ?_⟩) ?_ ?_
       rotate_left
       ·intro w'
        go_simp
        with_reducible rfl
       rotate_left
       ·simp only [Act.put, List.setIfInBounds_toArray, List.set_cons_zero, List.set_cons_succ, i64_w, i32_w]
        rfl
       refine pure_ (i := 2) (N := some 36) (v := ?_) (a' := ?_) #[true, true, true, false, false, false, false, false, false, false, false, false, false] rfl rfl (any_of rfl (by kernel_rfl)) (fun _ _ _ h => h) (Or.inl ⟨by rfl, ?_⟩) ?_ ?_
       rotate_left
       ·intro w'
        go_simp
        with_reducible rfl
       rotate_left
       ·simp only [Act.put, List.setIfInBounds_toArray, List.set_cons_zero, List.set_cons_succ, i64_w, i32_w]
        rfl
       refine pure_ (i := 3) (N := some 37) (v := ?_) (a' := ?_) #[true, true, true, true, false, false, false, false, false, false, false, false, false] rfl rfl (any_of rfl (by kernel_rfl)) (fun _ _ _ h => h) (Or.inl ⟨by rfl, ?_⟩) ?_ ?_
       rotate_left
       ·intro w'
        go_simp
        with_reducible rfl
       rotate_left
       ·simp only [Act.put, List.setIfInBounds_toArray, List.set_cons_zero, List.set_cons_succ, i64_w, i32_w]
        rfl
       refine pure_ (i := 4) (N := some 38) (v := ?_) (a' := ?_) #[true, true, true, true, true, false, false, false, false, false, false, false, false] rfl rfl (any_of rfl (by kernel_rfl)) (fun _ _ _ h => h) (Or.inl ⟨by rfl, ?_⟩) ?_ ?_
       rotate_left
       ·intro w'
        go_simp
        with_reducible rfl
       rotate_left
       ·simp only [Act.put, List.setIfInBounds_toArray, List.set_cons_zero, List.set_cons_succ, i64_w, i32_w]
        rfl
       refine take_ (i := 5) (N := some 39) (v := ?_) (a' := ?_) #[true, true, true, true, true, true, false, false, false, false, false, false, false] rfl rfl (take_of rfl (by kernel_rfl)) (fun _ _ _ h => h) (Or.inl ⟨by rfl, ?_⟩) hHeld ?_ ?_
       rotate_left
       ·rintro w' ⟨s0, s1, s2, s3, s4⟩
        go_simp
        with_reducible rfl
       rotate_left
       ·simp only [Act.put, List.setIfInBounds_toArray, List.set_cons_zero, List.set_cons_succ, i64_w, i32_w]
        rfl
       refine pure_ (i := 6) (N := some 40) (v := ?_) (a' := ?_) #[true, true, true, true, true, true, true, false, false, false, false, false, false] rfl rfl (any_of rfl (by kernel_rfl)) (fun _ _ _ h => h) (Or.inl ⟨by rfl, ?_⟩) ?_ ?_
       rotate_left
       ·intro w'
        go_simp
        with_reducible rfl
       rotate_left
       ·simp only [Act.put, List.setIfInBounds_toArray, List.set_cons_zero, List.set_cons_succ, i64_w, i32_w]
        rfl
       refine pure_ (i := 7) (N := some 41) (v := ?_) (a' := ?_) #[true, true, true, true, true, true, true, true, false, false, false, false, false] rfl rfl (any_of rfl (by kernel_rfl)) (fun _ _ _ h => h) (Or.inl ⟨by rfl, ?_⟩) ?_ ?_
       rotate_left
       ·intro w'
        go_simp
        with_reducible rfl
       rotate_left
       ·simp only [Act.put, List.setIfInBounds_toArray, List.set_cons_zero, List.set_cons_succ, i64_w, i32_w]
        rfl
       refine pure_ (i := 8) (N := some 42) (v := ?_) (a' := ?_) #[true, true, true, true, true, true, true, true, true, false, false, false, false] rfl rfl (any_of rfl (by kernel_rfl)) (fun _ _ _ h => h) (Or.inl ⟨by rfl, ?_⟩) ?_ ?_
       rotate_left
       ·intro w'
        go_simp
        with_reducible rfl
       rotate_left
       ·simp only [Act.put, List.setIfInBounds_toArray, List.set_cons_zero, List.set_cons_succ, i64_w, i32_w]
        rfl
       refine pure_ (i := 9) (N := some 43) (v := ?_) (a' := ?_) #[true, true, true, true, true, true, true, true, true, true, false, false, false] rfl rfl (any_of rfl (by kernel_rfl)) (fun _ _ _ h => h) (Or.inl ⟨by rfl, ?_⟩) ?_ ?_
       rotate_left
       ·intro w'
        go_simp
        with_reducible rfl
       rotate_left
       ·simp only [Act.put, List.setIfInBounds_toArray, List.set_cons_zero, List.set_cons_succ, i64_w, i32_w]
        rfl
       refine take_ (i := 10) (N := some 44) (v := ?_) (a' := ?_) #[true, true, true, true, true, true, true, true, true, true, true, false, false] rfl rfl (take_of rfl (by kernel_rfl)) (fun _ _ _ h => h) (Or.inl ⟨by rfl, ?_⟩) hHeld ?_ ?_
       rotate_left
       ·rintro w' ⟨s0, s1, s2, s3, s4⟩
        go_simp
        with_reducible rfl
       rotate_left
       ·simp only [Act.put, List.setIfInBounds_toArray, List.set_cons_zero, List.set_cons_succ, i64_w, i32_w]
        rfl
       refine one_ (i := 11) (N := some 45) #[true, true, true, true, true, true, true, true, true, true, true, true, false] rfl rfl (one_of rfl (by kernel_rfl)) (by decide) (fun K hK => ?_)
       refine goes_ Try.func55 (by kernel_rfl) rfl #[.slice A0 l0.length c0, .int .i64 x.f0, .agg #[.int .u8 x.f1.f0, .int .i64 x.f1.f1, .int .u64 x.f1.f2, .string x.f1.f3]] (by rfl) rfl rfl (by (try simp only [List.map_toArray, List.map_cons, List.map_nil]); first | done | rfl) ?_
       refine (rubricref04_Fits.calls 20001 A0 c0 l0 x.f0 x.f1.f0 x.f1.f1 x.f1.f2 x.f1.f3 b w7 (Kd.C_below HR0.out HB8.out) HC0.out HV.out).mono ?_
       rintro e w9 ⟨rfl, hb⟩
       have HB9 := Aside0.mk (below_step HB8.out hb)
       clear hb
       refine ⟨_, rfl, ?_⟩
       refine hK.out _ _ (EW.out _ HB9.out) (fun hHeld => ?_)
       clear hK K
       refine norm_ (a' := ?_) ?_ ?_
       rotate_left
       ·show Act.put _ (some 45) _ = _
        simp only [Act.put, List.setIfInBounds_toArray, List.set_cons_zero, List.set_cons_succ, i64_w, i32_w]
        rfl
       refine pure_ (i := 12) (N := some 46) (v := ?_) (a' := ?_) #[true, true, true, true, true, true, true, true, true, true, true, true, true] rfl rfl (any_of rfl (by kernel_rfl)) (fun _ _ _ h => h) (Or.inl ⟨by rfl, ?_⟩) ?_ ?_
       rotate_left
       ·intro w'
        go_simp
        with_reducible rfl
       rotate_left
       ·simp only [Act.put, List.setIfInBounds_toArray, List.set_cons_zero, List.set_cons_succ, i64_w, i32_w]
        rfl
       refine done_ (done_of rfl (by kernel_rfl)) ?_
       clear hHeld HV EW
       cases b with
       | false =>
        go_wp2_with fail
        go_ret
        exact ⟨⟨4, rfl⟩, HB9.out⟩
       | true =>
        go_wp2_with fail
        go_roundw
        case rel => exact ⟨k + 1, by omega, by go_num, HB9⟩
        case measure => simp [intOf]; omega
      ·obtain rfl : k = l1.length := by omega
       go_wp2_with fail
       go_ret
       exact ⟨⟨0, rfl⟩, HB.out⟩
set_option maxHeartbeats 4000000 in
set_option maxRecDepth 100000 in
theorem may06 (A0 : Option Addr) (c0 : Nat) (l0 : List S64) (A1 : Option Addr) (c1 : Nat) (l1 : List S42) (w : World) (hr0 : Kd.C k64 w A0 l0.length l0) (hc0 : l0.length ≤ c0) (hr1 : Kd.C k42 w A1 l1.length l1) (hc1 : l1.length ≤ c1) (hk : l0.length ≤ 20000) (hl : l1.length ≤ 20000) (hs : ∀ a ∈ l1, a.f2.f3.size ≤ 20000) :
  Calls Try.prog 43 #[.slice A0 l0.length c0, .slice A1 l1.length c1] w (AnyI w) := by
 have HR0 := Aside0.mk hr0
 have HC0 := Aside0.mk hc0
 have HR1 := Aside0.mk hr1
 have HC1 := Aside0.mk hc1
 have HS := Aside0.mk hs
 have HK := Aside0.mk hk
 have hu38 := Try.underlying38
 obtain ⟨b, hb⟩ := rising06_some l1 hl 20001 (Nat.le_refl _)
 have HB_ := Aside0.mk hb
 clear hr0 hc0 hr1 hc1 hs hb hk
 go_enter Try.func43, Try.ntmps43
 go_wp2_with fail
 refine (rubricref06_Rising.calls 20001 A1 c1 l1 b w HR1.out HC1.out HB_.out).mono ?_
 rintro e w1 ⟨rfl, hb⟩
 have HB1 := Aside0.mk (Drawn0.below hb)
 clear hb HB_
 cases b with
 | false =>
  go_wp2_with fail
  go_ret
  exact ⟨⟨3, rfl⟩, HB1.out⟩
 | true =>
  by_cases h64 : (l1.length : Int) > 64
  ·go_wp2_with fail
   go_ret
   exact ⟨⟨3, rfl⟩, HB1.out⟩
  ·go_wp2_with fail
   go_loopw [5] (fun i wr => ∃ k : Nat, k ≤ l1.length ∧ i = .int .i64 k ∧ Aside0 (Below w.heap.size w wr)) (fun i _ => l1.length - (intOf i).toNat)
   case atStart => exact ⟨0, Nat.zero_le _, rfl, HB1⟩
   case round =>
    clear HB1
    obtain ⟨k, hk, rfl, HB⟩ := hrel
    by_cases hlt : k < l1.length
    ·obtain ⟨ad, rfl, e0, e1, e2, e3, e4, e5⟩ := at_T42 (Kd.C_below HR1.out HB.out) (k : Int) (by omega) (by omega)
     simp only [Int.toNat_natCast] at e0 e1 e2 e3 e4 e5
     have hki : (k : Int) < (l1.length : Int) := by omega
     have q0 : (0 : Int) ≤ (k : Int) := Int.natCast_nonneg k
     obtain ⟨b, hb⟩ := mayV_some (rd_T42 l1 (k : Int)).f2.f0 (rd_T42 l1 (k : Int)).f2.f1 (rd_T42 l1 (k : Int)).f2.f2 (rd_T42 l1 (k : Int)).f2.f3 (HS.out _ (rd42_mem hlt))
     have HV := Aside0.mk hb
     clear hb
     generalize rd_T42 l1 (k : Int) = x at e0 e1 e2 e3 e4 e5 HV
     obtain ⟨gn, hgn⟩ : ∃ g, x.f1 = g := ⟨_, rfl⟩
     rw [hgn] at e1
     clear hgn
     cases gn with
     | true =>
      go_wp2_with fail
      all_goals first
       | (go_roundw; (case rel => exact ⟨k + 1, by omega, by go_num, HB⟩); (case measure => simp [intOf]; omega))
       | (go_ret; exact ⟨⟨3, rfl⟩, HB.out⟩)
     | false =>
      go_wp2_with fail
      refine (rubricref03_May.calls x.f2.f0 x.f2.f1 x.f2.f2 x.f2.f3 b _ HV.out).mono ?_
      rintro e w2 ⟨rfl, hb⟩
      have HB2 := Aside0.mk (below_step HB.out hb)
      clear hb HV e0 e1 e2 e3 e4 e5
      cases b with
      | false =>
       go_wp2_with fail
       go_ret
       exact ⟨⟨3, rfl⟩, HB2.out⟩
      | true =>
       go_wp2_with fail
       go_roundw
       case rel => exact ⟨k + 1, by omega, by go_num, HB2⟩
       case measure => simp [intOf]; omega
    ·obtain rfl : k = l1.length := by omega
     go_wp2_with fail
     go_loopw [6] (fun i wr => ∃ k : Nat, k ≤ l1.length ∧ i = .int .i64 k ∧ Aside0 (Below w.heap.size w wr)) (fun i _ => l1.length - (intOf i).toNat)
     case atStart => exact ⟨0, Nat.zero_le _, rfl, HB⟩
     case round =>
      clear HB
      obtain ⟨k, hk, rfl, HB⟩ := hrel
      by_cases hlt : k < l1.length
      ·obtain ⟨ad, rfl, e0, e1, e2, e3, e4, e5⟩ := at_T42 HR1.out (k : Int) (by omega) (by omega)
       simp only [Int.toNat_natCast] at e0 e1 e2 e3 e4 e5
       have hki : (k : Int) < (l1.length : Int) := by omega
       have q0 : (0 : Int) ≤ (k : Int) := Int.natCast_nonneg k
       obtain ⟨b, hb⟩ := fits_some l0 (rd_T42 l1 (k : Int)).f0 (rd_T42 l1 (k : Int)).f2.f0 (rd_T42 l1 (k : Int)).f2.f1 (rd_T42 l1 (k : Int)).f2.f2 (rd_T42 l1 (k : Int)).f2.f3 (HS.out _ (rd42_mem hlt)) HK.out 20001 (Nat.le_refl _)
       have HV := Aside0.mk hb
       obtain ⟨⟨r1, r2, r3, r4, r5, r6, r7⟩, hf⟩ := find_some l0 (rd_T42 l1 (k : Int)).f0 HK.out 20001 (Nat.le_refl _)
       have HF := Aside0.mk hf
       clear hb hf
       generalize rd_T42 l1 (k : Int) = x at e0 e1 e2 e3 e4 e5 HV HF
       obtain ⟨gn, hgn⟩ : ∃ g, x.f1 = g := ⟨_, rfl⟩
       rw [hgn] at e1
       clear hgn
       have EW : Aside0 (∀ W, Below w.heap.size w W → W.cell? (ad.add (k * 6)) = some (.int .i64 x.f0) ∧ W.cell? ⟨(ad.add (k * 6)).block, (ad.add (k * 6)).off + 1, none⟩ = some (.bool gn) ∧ W.cell? ⟨(ad.add (k * 6)).block, (ad.add (k * 6)).off + 2, none⟩ = some (.int .u8 x.f2.f0) ∧ W.cell? ⟨(ad.add (k * 6)).block, (ad.add (k * 6)).off + 3, none⟩ = some (.int .i64 x.f2.f1) ∧ W.cell? ⟨(ad.add (k * 6)).block, (ad.add (k * 6)).off + 4, none⟩ = some (.int .u64 x.f2.f2) ∧ W.cell? ⟨(ad.add (k * 6)).block, (ad.add (k * 6)).off + 5, none⟩ = some (.string x.f2.f3)) := ⟨fun W hW => ⟨(hW.cell (World.block_lt_of_cell? _ _ e0)).trans e0, (hW.cell (World.block_lt_of_cell? _ _ e1)).trans e1, (hW.cell (World.block_lt_of_cell? _ _ e2)).trans e2, (hW.cell (World.block_lt_of_cell? _ _ e3)).trans e3, (hW.cell (World.block_lt_of_cell? _ _ e4)).trans e4, (hW.cell (World.block_lt_of_cell? _ _ e5)).trans e5⟩⟩
       clear e0 e1 e2 e3 e4 e5
       obtain ⟨e0, _, _, _, _, _⟩ := EW.out _ HB.out
       go_wp2_with fail
       refine (rubricref04_Find.calls 20001 A0 c0 l0 x.f0 r1 r2 r3 r4 r5 r6 r7 _ (Kd.C_below HR0.out HB.out) HC0.out HF.out).mono ?_
       rintro e w2 ⟨rfl, hb⟩
       have HB2 := Aside0.mk (below_step HB.out hb)
       clear hb HF e0
       go_upto_region 12 with (fail)
       have HB3 := Aside0.mk (below_step HB2.out (below_alloc (Below.refl _ _) (.cells #[.int .i64 r1, .bool r2, .int .u8 r3, .bool r4, .bool r5, .int .i64 r6] 64)))
       generalize World.alloc _ _ = w3 at HB3 ⊢
       cases r7 with
       | false =>
        go_quiet (fail)
        go_wp2_with fail
        go_ret
        exact ⟨⟨4, rfl⟩, pw_below_drewN HB3.out _⟩
       | true =>
        cases gn with
        | true =>
         obtain ⟨_, e1, _, _, _, _⟩ := EW.out _ HB3.out
         go_quiet (fail)
         go_wp2_with fail
         go_roundw
         case rel => exact ⟨k + 1, by omega, by go_num, ⟨pw_below_drewN HB3.out _⟩⟩
         case measure => simp [intOf]; omega
        | false =>
         refine start_ (n := 25) (S := fun W => W.cell? (ad.add (k * 6)) = some (.int .i64 x.f0) ∧ W.cell? ⟨(ad.add (k * 6)).block, (ad.add (k * 6)).off + 1, none⟩ = some (.bool false) ∧ W.cell? ⟨(ad.add (k * 6)).block, (ad.add (k * 6)).off + 2, none⟩ = some (.int .u8 x.f2.f0) ∧ W.cell? ⟨(ad.add (k * 6)).block, (ad.add (k * 6)).off + 3, none⟩ = some (.int .i64 x.f2.f1) ∧ W.cell? ⟨(ad.add (k * 6)).block, (ad.add (k * 6)).off + 4, none⟩ = some (.int .u64 x.f2.f2) ∧ W.cell? ⟨(ad.add (k * 6)).block, (ad.add (k * 6)).off + 5, none⟩ = some (.string x.f2.f3)) (ds := []) #[false, false, false, false, false, false, false, false, false, false, false, false, false, false, false, false, false, false, false, false, false, false, false, false, false] (by kernel_rfl) rfl rfl (EW.out _ (below_drew HB3.out)) (fun hHeld => ?_)
         have hb := below_step HB3.out (below_drew (Below.refl _ _))
         generalize World.drew _ = w7 at hb hHeld ⊢
         have HB8 := Aside0.mk hb
         clear hb
         refine pure_ (i := 0) (N := some 70) (v := ?_) (a' := ?_) #[true, false, false, false, false, false, false, false, false, false, false, false, false, false, false, false, false, false, false, false, false, false, false, false, false] rfl rfl (any_of rfl (by kernel_rfl)) (fun _ _ _ h => h) (Or.inl ⟨by rfl, ?_⟩) ?_ ?_
         rotate_left
         ·intro w'
          go_simp
          with_reducible rfl
         rotate_left
         ·simp only [Act.put, List.setIfInBounds_toArray, List.set_cons_zero, List.set_cons_succ, i64_w, i32_w]
          rfl
         refine pure_ (i := 1) (N := some 71) (v := ?_) (a' := ?_) #[true, true, false, false, false, false, false, false, false, false, false, false, false, false, false, false, false, false, false, false, false, false, false, false, false] rfl rfl (any_of rfl (by kernel_rfl)) (fun _ _ _ h => h) (Or.inl ⟨by rfl, ?_⟩) ?_ ?_
         rotate_left
         ·intro w'
          go_simp
          with_reducible rfl
         rotate_left
         ·simp only [Act.put, List.setIfInBounds_toArray, List.set_cons_zero, List.set_cons_succ, i64_w, i32_w]
          rfl
         refine pure_ (i := 2) (N := some 72) (v := ?_) (a' := ?_) #[true, true, true, false, false, false, false, false, false, false, false, false, false, false, false, false, false, false, false, false, false, false, false, false, false] rfl rfl (any_of rfl (by kernel_rfl)) (fun _ _ _ h => h) (Or.inl ⟨by rfl, ?_⟩) ?_ ?_
         rotate_left
         ·intro w'
          go_simp
          with_reducible rfl
         rotate_left
         ·simp only [Act.put, List.setIfInBounds_toArray, List.set_cons_zero, List.set_cons_succ, i64_w, i32_w]
          rfl
         refine pure_ (i := 3) (N := some 73) (v := ?_) (a' := ?_) #[true, true, true, true, false, false, false, false, false, false, false, false, false, false, false, false, false, false, false, false, false, false, false, false, false] rfl rfl (any_of rfl (by kernel_rfl)) (fun _ _ _ h => h) (Or.inl ⟨by rfl, ?_⟩) ?_ ?_
         rotate_left
         ·intro w'
          go_simp
          with_reducible rfl
         rotate_left
         ·simp only [Act.put, List.setIfInBounds_toArray, List.set_cons_zero, List.set_cons_succ, i64_w, i32_w]
          rfl
         refine pure_ (i := 4) (N := some 74) (v := ?_) (a' := ?_) #[true, true, true, true, true, false, false, false, false, false, false, false, false, false, false, false, false, false, false, false, false, false, false, false, false] rfl rfl (any_of rfl (by kernel_rfl)) (fun _ _ _ h => h) (Or.inl ⟨by rfl, ?_⟩) ?_ ?_
         rotate_left
         ·intro w'
          go_simp
          with_reducible rfl
         rotate_left
         ·simp only [Act.put, List.setIfInBounds_toArray, List.set_cons_zero, List.set_cons_succ, i64_w, i32_w]
          rfl
         refine pure_ (i := 5) (N := some 75) (v := ?_) (a' := ?_) #[true, true, true, true, true, true, false, false, false, false, false, false, false, false, false, false, false, false, false, false, false, false, false, false, false] rfl rfl (any_of rfl (by kernel_rfl)) (fun _ _ _ h => h) (Or.inl ⟨by rfl, ?_⟩) ?_ ?_
         rotate_left
         ·intro w'
          go_simp
          with_reducible rfl
         rotate_left
         ·simp only [Act.put, List.setIfInBounds_toArray, List.set_cons_zero, List.set_cons_succ, i64_w, i32_w]
          rfl
         refine pure_ (i := 6) (N := some 76) (v := ?_) (a' := ?_) #[true, true, true, true, true, true, true, false, false, false, false, false, false, false, false, false, false, false, false, false, false, false, false, false, false] rfl rfl (any_of rfl (by kernel_rfl)) (fun _ _ _ h => h) (Or.inl ⟨by rfl, ?_⟩) ?_ ?_
         rotate_left
         ·intro w'
          go_simp
          with_reducible rfl
         rotate_left
         ·simp only [Act.put, List.setIfInBounds_toArray, List.set_cons_zero, List.set_cons_succ, i64_w, i32_w]
          rfl
         refine take_ (i := 7) (N := some 77) (v := ?_) (a' := ?_) #[true, true, true, true, true, true, true, true, false, false, false, false, false, false, false, false, false, false, false, false, false, false, false, false, false] rfl rfl (take_of rfl (by kernel_rfl)) (fun _ _ _ h => h) (Or.inl ⟨by rfl, ?_⟩) hHeld ?_ ?_
         rotate_left
         ·rintro w' ⟨s0, s1, s2, s3, s4, s5⟩
          go_simp
          with_reducible rfl
         rotate_left
         ·simp only [Act.put, List.setIfInBounds_toArray, List.set_cons_zero, List.set_cons_succ, i64_w, i32_w]
          rfl
         refine pure_ (i := 8) (N := some 78) (v := ?_) (a' := ?_) #[true, true, true, true, true, true, true, true, true, false, false, false, false, false, false, false, false, false, false, false, false, false, false, false, false] rfl rfl (any_of rfl (by kernel_rfl)) (fun _ _ _ h => h) (Or.inl ⟨by rfl, ?_⟩) ?_ ?_
         rotate_left
         ·intro w'
          go_simp
          with_reducible rfl
         rotate_left
         ·simp only [Act.put, List.setIfInBounds_toArray, List.set_cons_zero, List.set_cons_succ, i64_w, i32_w]
          rfl
         refine pure_ (i := 9) (N := some 79) (v := ?_) (a' := ?_) #[true, true, true, true, true, true, true, true, true, true, false, false, false, false, false, false, false, false, false, false, false, false, false, false, false] rfl rfl (any_of rfl (by kernel_rfl)) (fun _ _ _ h => h) (Or.inl ⟨by rfl, ?_⟩) ?_ ?_
         rotate_left
         ·intro w'
          go_simp
          with_reducible rfl
         rotate_left
         ·simp only [Act.put, List.setIfInBounds_toArray, List.set_cons_zero, List.set_cons_succ, i64_w, i32_w]
          rfl
         refine pure_ (i := 10) (N := some 80) (v := ?_) (a' := ?_) #[true, true, true, true, true, true, true, true, true, true, true, false, false, false, false, false, false, false, false, false, false, false, false, false, false] rfl rfl (any_of rfl (by kernel_rfl)) (fun _ _ _ h => h) (Or.inl ⟨by rfl, ?_⟩) ?_ ?_
         rotate_left
         ·intro w'
          go_simp
          with_reducible rfl
         rotate_left
         ·simp only [Act.put, List.setIfInBounds_toArray, List.set_cons_zero, List.set_cons_succ, i64_w, i32_w]
          rfl
         refine pure_ (i := 11) (N := some 81) (v := ?_) (a' := ?_) #[true, true, true, true, true, true, true, true, true, true, true, true, false, false, false, false, false, false, false, false, false, false, false, false, false] rfl rfl (any_of rfl (by kernel_rfl)) (fun _ _ _ h => h) (Or.inl ⟨by rfl, ?_⟩) ?_ ?_
         rotate_left
         ·intro w'
          go_simp
          with_reducible rfl
         rotate_left
         ·simp only [Act.put, List.setIfInBounds_toArray, List.set_cons_zero, List.set_cons_succ, i64_w, i32_w]
          rfl
         refine pure_ (i := 12) (N := some 82) (v := ?_) (a' := ?_) #[true, true, true, true, true, true, true, true, true, true, true, true, true, false, false, false, false, false, false, false, false, false, false, false, false] rfl rfl (any_of rfl (by kernel_rfl)) (fun _ _ _ h => h) (Or.inl ⟨by rfl, ?_⟩) ?_ ?_
         rotate_left
         ·intro w'
          go_simp
          with_reducible rfl
         rotate_left
         ·simp only [Act.put, List.setIfInBounds_toArray, List.set_cons_zero, List.set_cons_succ, i64_w, i32_w]
          rfl
         refine pure_ (i := 13) (N := some 83) (v := ?_) (a' := ?_) #[true, true, true, true, true, true, true, true, true, true, true, true, true, true, false, false, false, false, false, false, false, false, false, false, false] rfl rfl (any_of rfl (by kernel_rfl)) (fun _ _ _ h => h) (Or.inl ⟨by rfl, ?_⟩) ?_ ?_
         rotate_left
         ·intro w'
          go_simp
          with_reducible rfl
         rotate_left
         ·simp only [Act.put, List.setIfInBounds_toArray, List.set_cons_zero, List.set_cons_succ, i64_w, i32_w]
          rfl
         refine pure_ (i := 14) (N := some 84) (v := ?_) (a' := ?_) #[true, true, true, true, true, true, true, true, true, true, true, true, true, true, true, false, false, false, false, false, false, false, false, false, false] rfl rfl (any_of rfl (by kernel_rfl)) (fun _ _ _ h => h) (Or.inl ⟨by rfl, ?_⟩) ?_ ?_
         rotate_left
         ·intro w'
          go_simp
          with_reducible rfl
         rotate_left
         ·simp only [Act.put, List.setIfInBounds_toArray, List.set_cons_zero, List.set_cons_succ, i64_w, i32_w]
          rfl
         refine take_ (i := 15) (N := some 85) (v := ?_) (a' := ?_) #[true, true, true, true, true, true, true, true, true, true, true, true, true, true, true, true, false, false, false, false, false, false, false, false, false] rfl rfl (take_of rfl (by kernel_rfl)) (fun _ _ _ h => h) (Or.inl ⟨by rfl, ?_⟩) hHeld ?_ ?_
         rotate_left
         ·rintro w' ⟨s0, s1, s2, s3, s4, s5⟩
          go_simp
          with_reducible rfl
         rotate_left
         ·simp only [Act.put, List.setIfInBounds_toArray, List.set_cons_zero, List.set_cons_succ, i64_w, i32_w]
          rfl
         refine pure_ (i := 16) (N := some 86) (v := ?_) (a' := ?_) #[true, true, true, true, true, true, true, true, true, true, true, true, true, true, true, true, true, false, false, false, false, false, false, false, false] rfl rfl (any_of rfl (by kernel_rfl)) (fun _ _ _ h => h) (Or.inl ⟨by rfl, ?_⟩) ?_ ?_
         rotate_left
         ·intro w'
          go_simp
          with_reducible rfl
         rotate_left
         ·simp only [Act.put, List.setIfInBounds_toArray, List.set_cons_zero, List.set_cons_succ, i64_w, i32_w]
          rfl
         refine pure_ (i := 17) (N := some 87) (v := ?_) (a' := ?_) #[true, true, true, true, true, true, true, true, true, true, true, true, true, true, true, true, true, true, false, false, false, false, false, false, false] rfl rfl (any_of rfl (by kernel_rfl)) (fun _ _ _ h => h) (Or.inl ⟨by rfl, ?_⟩) ?_ ?_
         rotate_left
         ·intro w'
          go_simp
          with_reducible rfl
         rotate_left
         ·simp only [Act.put, List.setIfInBounds_toArray, List.set_cons_zero, List.set_cons_succ, i64_w, i32_w]
          rfl
         refine pure_ (i := 18) (N := some 88) (v := ?_) (a' := ?_) #[true, true, true, true, true, true, true, true, true, true, true, true, true, true, true, true, true, true, true, false, false, false, false, false, false] rfl rfl (any_of rfl (by kernel_rfl)) (fun _ _ _ h => h) (Or.inl ⟨by rfl, ?_⟩) ?_ ?_
         rotate_left
         ·intro w'
          go_simp
          with_reducible rfl
         rotate_left
         ·simp only [Act.put, List.setIfInBounds_toArray, List.set_cons_zero, List.set_cons_succ, i64_w, i32_w]
          rfl
         refine pure_ (i := 19) (N := some 89) (v := ?_) (a' := ?_) #[true, true, true, true, true, true, true, true, true, true, true, true, true, true, true, true, true, true, true, true, false, false, false, false, false] rfl rfl (any_of rfl (by kernel_rfl)) (fun _ _ _ h => h) (Or.inl ⟨by rfl, ?_⟩) ?_ ?_
         rotate_left
         ·intro w'
          go_simp
          with_reducible rfl
         rotate_left
         ·simp only [Act.put, List.setIfInBounds_toArray, List.set_cons_zero, List.set_cons_succ, i64_w, i32_w]
          rfl
         refine take_ (i := 20) (N := some 90) (v := ?_) (a' := ?_) #[true, true, true, true, true, true, true, true, true, true, true, true, true, true, true, true, true, true, true, true, true, false, false, false, false] rfl rfl (take_of rfl (by kernel_rfl)) (fun _ _ _ h => h) (Or.inl ⟨by rfl, ?_⟩) hHeld ?_ ?_
         rotate_left
         ·rintro w' ⟨s0, s1, s2, s3, s4, s5⟩
          go_simp
          with_reducible rfl
         rotate_left
         ·simp only [Act.put, List.setIfInBounds_toArray, List.set_cons_zero, List.set_cons_succ, i64_w, i32_w]
          rfl
         refine one_ (i := 21) (N := some 91) #[true, true, true, true, true, true, true, true, true, true, true, true, true, true, true, true, true, true, true, true, true, true, false, false, false] rfl rfl (one_of rfl (by kernel_rfl)) (by decide) (fun K hK => ?_)
         refine goes_ Try.func55 (by kernel_rfl) rfl #[.slice A0 l0.length c0, .int .i64 x.f0, .agg #[.int .u8 x.f2.f0, .int .i64 x.f2.f1, .int .u64 x.f2.f2, .string x.f2.f3]] (by rfl) rfl rfl (by (try simp only [List.map_toArray, List.map_cons, List.map_nil]); first | done | rfl) ?_
         refine (rubricref04_Fits.calls 20001 A0 c0 l0 x.f0 x.f2.f0 x.f2.f1 x.f2.f2 x.f2.f3 b w7 (Kd.C_below HR0.out HB8.out) HC0.out HV.out).mono ?_
         rintro e w9 ⟨rfl, hb⟩
         have HB9 := Aside0.mk (below_step HB8.out hb)
         clear hb
         refine ⟨_, rfl, ?_⟩
         refine hK.out _ _ (EW.out _ HB9.out) (fun hHeld => ?_)
         clear hK K
         refine norm_ (a' := ?_) ?_ ?_
         rotate_left
         ·show Act.put _ (some 91) _ = _
          simp only [Act.put, List.setIfInBounds_toArray, List.set_cons_zero, List.set_cons_succ, i64_w, i32_w]
          rfl
         refine pure_ (i := 22) (N := some 92) (v := ?_) (a' := ?_) #[true, true, true, true, true, true, true, true, true, true, true, true, true, true, true, true, true, true, true, true, true, true, true, false, false] rfl rfl (any_of rfl (by kernel_rfl)) (fun _ _ _ h => h) (Or.inl ⟨by rfl, ?_⟩) ?_ ?_
         rotate_left
         ·intro w'
          go_simp
          with_reducible rfl
         rotate_left
         ·simp only [Act.put, List.setIfInBounds_toArray, List.set_cons_zero, List.set_cons_succ, i64_w, i32_w]
          rfl
         refine pure_ (i := 23) (N := some 93) (v := ?_) (a' := ?_) #[true, true, true, true, true, true, true, true, true, true, true, true, true, true, true, true, true, true, true, true, true, true, true, true, false] rfl rfl (any_of rfl (by kernel_rfl)) (fun _ _ _ h => h) (Or.inl ⟨by rfl, ?_⟩) ?_ ?_
         rotate_left
         ·intro w'
          go_simp
          with_reducible rfl
         rotate_left
         ·simp only [Act.put, List.setIfInBounds_toArray, List.set_cons_zero, List.set_cons_succ, i64_w, i32_w]
          rfl
         refine pure_ (i := 24) (N := some 94) (v := ?_) (a' := ?_) #[true, true, true, true, true, true, true, true, true, true, true, true, true, true, true, true, true, true, true, true, true, true, true, true, true] rfl rfl (any_of rfl (by kernel_rfl)) (fun _ _ _ h => h) (Or.inl ⟨by rfl, ?_⟩) ?_ ?_
         rotate_left
         ·intro w'
          go_simp
          with_reducible rfl
         rotate_left
         ·simp only [Act.put, List.setIfInBounds_toArray, List.set_cons_zero, List.set_cons_succ, i64_w, i32_w]
          rfl
         refine done_ (done_of rfl (by kernel_rfl)) ?_
         clear hHeld HV EW
         cases b with
         | false =>
          go_wp2_with fail
          go_ret
          exact ⟨⟨4, rfl⟩, HB9.out⟩
         | true =>
          go_wp2_with fail
          go_roundw
          case rel => exact ⟨k + 1, by omega, by go_num, HB9⟩
          case measure => simp [intOf]; omega
      ·obtain rfl : k = l1.length := by omega
       go_wp2_with fail
       go_ret
       exact ⟨⟨0, rfl⟩, HB.out⟩
set_option maxHeartbeats 4000000 in
set_option maxRecDepth 100000 in
theorem may04 (A0 : Option Addr) (c0 : Nat) (l0 : List S64) (w : World) (hr0 : Kd.C k64 w A0 l0.length l0) (hc0 : l0.length ≤ c0) :
  Calls Try.prog 24 #[.slice A0 l0.length c0] w (AnyB w) := by
 have HR0 := Aside0.mk hr0
 have HC0 := Aside0.mk hc0
 clear hr0 hc0
 by_cases h64 : (l0.length : Int) > 64
 ·go_enter Try.func24, Try.ntmps24
  go_wp2_with fail
  go_ret
  exact ⟨⟨false, rfl⟩, Below.refl _ _⟩
 ·go_enter Try.func24, Try.ntmps24
  go_wp2_with fail
  go_loopw [3] (fun i wr => ∃ k : Nat, k ≤ l0.length ∧ i = .int .i64 k ∧ Aside0 (Below w.heap.size w wr)) (fun i _ => l0.length - (intOf i).toNat)
  case atStart => exact ⟨0, Nat.zero_le _, rfl, ⟨Below.refl _ _⟩⟩
  case round =>
   obtain ⟨k, hk, rfl, HB⟩ := hrel
   by_cases hlt : k < l0.length
   ·obtain ⟨ad, rfl, e0, e1, e2, e3, e4, e5⟩ := at_T64 (Kd.C_below HR0.out HB.out) (k : Int) (by omega) (by omega)
    simp only [Int.toNat_natCast] at e0 e1 e2 e3 e4 e5
    have hki : (k : Int) < (l0.length : Int) := by omega
    have q0 : (0 : Int) ≤ (k : Int) := Int.natCast_nonneg k
    generalize rd_T64 l0 (k : Int) = x at e0 e1 e2 e3 e4 e5
    go_upto_region 7 with (fail)
    have hbx := heap_alloc_new wr (.cells #[.int .i64 x.f0, .bool x.f1, .int .u8 x.f2, .bool x.f3, .bool x.f4, .int .i64 x.f5] 64)
    have HB3 := Aside0.mk (below_step HB.out (below_alloc (Below.refl _ _) (.cells #[.int .i64 x.f0, .bool x.f1, .int .u8 x.f2, .bool x.f3, .bool x.f4, .int .i64 x.f5] 64)))
    generalize World.alloc _ _ = w3 at HB3 hbx ⊢
    generalize wr.heap.size = bx at hbx ⊢
    clear e0 e1 e2 e3 e4 e5
    have b0 : w3.cell? ⟨bx, 0, none⟩ = some (.int .i64 x.f0) := (blk_cell hbx 0).trans rfl
    have b1 : w3.cell? ⟨bx, 1, none⟩ = some (.bool x.f1) := (blk_cell hbx 1).trans rfl
    have b2 : w3.cell? ⟨bx, 2, none⟩ = some (.int .u8 x.f2) := (blk_cell hbx 2).trans rfl
    have b4 : w3.cell? ⟨bx, 4, none⟩ = some (.bool x.f4) := (blk_cell hbx 4).trans rfl
    have b5 : w3.cell? ⟨bx, 5, none⟩ = some (.int .i64 x.f5) := (blk_cell hbx 5).trans rfl
    have BX := Aside0.mk b0
    clear hbx HB
    go_cut [64] (fun v wc => ∃ b : Bool, v = .bool b ∧ Aside0 (wc = w3))
    case first =>
     go_wp2_with fail
     all_goals
      go_meet
      case rel => exact ⟨_, rfl, ⟨rfl⟩⟩
    case rest =>
     obtain ⟨b, rfl, HW⟩ := hcut
     obtain rfl := HW.out
     clear HW b0 b1 b2 b4 b5
     cases b with
     | true =>
      go_wp2_with fail
      go_ret
      exact ⟨⟨false, rfl⟩, HB3.out⟩
     | false =>
      go_wp2_with fail
      go_loopw [5] (fun i wr => ∃ n : Nat, n ≤ k ∧ i = .int .i64 n ∧ Aside0 (Below wc.heap.size wc wr)) (fun i _ => k - (intOf i).toNat)
      case atStart => exact ⟨0, Nat.zero_le _, rfl, ⟨Below.refl _ _⟩⟩
      case round =>
       obtain ⟨n, hn, rfl, HB4⟩ := hrel
       by_cases hnk : n < k
       ·obtain ⟨ad2, e_, e0, _, _, _, _, _⟩ := at_T64 (Kd.C_below HR0.out (below_step HB3.out HB4.out)) (n : Int) (by omega) (by omega)
        cases e_
        simp only [Int.toNat_natCast] at e0
        have hni : (n : Int) < (l0.length : Int) := by omega
        have hnki : (n : Int) < (k : Int) := by omega
        have q1 : (0 : Int) ≤ (n : Int) := Int.natCast_nonneg n
        have b0 := (HB4.out.cell (World.block_lt_of_cell? _ _ BX.out)).trans BX.out
        go_wp2_with fail
        go_quiet (fail)
        go_wp2_with fail
        all_goals first
         | (go_roundw; (case rel => exact ⟨n + 1, by omega, by go_num, ⟨pw_below_drewN HB4.out _⟩⟩); (case measure => simp [intOf]; omega))
         | (go_ret; exact ⟨⟨false, rfl⟩, pw_below_drewN (below_step HB3.out HB4.out) _⟩)
       ·obtain rfl : n = k := by omega
        go_wp2_with fail
        go_roundw
        case rel => exact ⟨n + 1, by omega, by go_num, ⟨below_step HB3.out HB4.out⟩⟩
        case measure => simp [intOf]; omega
   ·obtain rfl : k = l0.length := by omega
    go_wp2_with fail
    go_ret
    exact ⟨⟨true, rfl⟩, HB.out⟩
def AnyM (w : World) (l : List S30) (e : Ending) (w' : World) : Prop := (∃ r : Int, e = .returned (.int .i64 r) ∧ (r = 0 → ∀ o ∈ l, OkO o)) ∧ Below w.heap.size w w'
set_option maxHeartbeats 4000000 in
set_option maxRecDepth 100000 in
theorem may15 (A0 : Option Addr) (c0 : Nat) (l0 : List S64) (A1 : Option Addr) (c1 : Nat) (l1 : List S30) (w : World) (hr0 : Kd.C k64 w A0 l0.length l0) (hc0 : l0.length ≤ c0) (hr1 : Kd.C k30 w A1 l1.length l1) (hc1 : l1.length ≤ c1) (hk : l0.length ≤ 20000) (hl : l1.length ≤ 20000) (hs : ∀ o ∈ l1, o.f2.length ≤ 20000 ∧ (o.f3.length ≤ 20000 ∧ ∀ a ∈ o.f3, a.f1.f3.size ≤ 20000) ∧ (o.f4.length ≤ 20000 ∧ ∀ a ∈ o.f4, a.f2.f3.size ≤ 20000)) :
  Calls Try.prog 25 #[.slice A0 l0.length c0, .slice A1 l1.length c1] w (AnyM w l1) := by
 have HR0 := Aside0.mk hr0
 have HC0 := Aside0.mk hc0
 have HR1 := Aside0.mk hr1
 have HC1 := Aside0.mk hc1
 have HS := Aside0.mk hs
 have HK := Aside0.mk hk
 clear hr0 hc0 hr1 hc1 hs hk
 go_enter Try.func25, Try.ntmps25
 go_wp2_with fail
 go_loopw [5] (fun i wr => ∃ k : Nat, k ≤ l1.length ∧ i = .int .i64 k ∧ Aside0 (Below w.heap.size w wr) ∧ Aside0 (∀ j, j < k → ∀ o, l1[j]? = some o → OkO o)) (fun i _ => l1.length - (intOf i).toNat)
 case atStart => exact ⟨0, Nat.zero_le _, rfl, ⟨Below.refl _ _⟩, ⟨fun j h => by omega⟩⟩
 case round =>
  obtain ⟨k, hk, rfl, HB, HOK⟩ := hrel
  by_cases hlt : k < l1.length
  ·obtain ⟨ad, A2, c2, A3, c3, A4, c4, eA, e0, e1, e2, e3, e4, l2, f2, l3, f3, l4, f4⟩ := at_T30 HR1.out (k : Int) (by omega) (by omega)
   simp only [Int.toNat_natCast] at e0 e1 e2 e3 e4
   have hki : (k : Int) < (l1.length : Int) := by omega
   have q0 : (0 : Int) ≤ (k : Int) := Int.natCast_nonneg k
   obtain ⟨x, hx⟩ : ∃ x, l1[k]? = some x := ⟨_, List.getElem?_eq_getElem hlt⟩
   have hmx : x ∈ l1 := List.mem_of_getElem? hx
   have hrd : rd_T30 l1 (k : Int) = x := by rw [rd30_at l1 k hlt]; exact (List.getElem?_eq_some_iff.1 hx).2
   rw [hrd] at e0 e1 e2 e3 e4 l2 f2 l3 f3 l4 f4
   have EW : Aside0 (∀ W, Below w.heap.size w W → W.cell? (ad.add (k * 5)) = some (.int .u8 x.f0) ∧ W.cell? ⟨(ad.add (k * 5)).block, (ad.add (k * 5)).off + 1, none⟩ = some (.int .i64 x.f1) ∧ W.cell? ⟨(ad.add (k * 5)).block, (ad.add (k * 5)).off + 2, none⟩ = some (.slice A2 x.f2.length c2) ∧ W.cell? ⟨(ad.add (k * 5)).block, (ad.add (k * 5)).off + 3, none⟩ = some (.slice A3 x.f3.length c3) ∧ W.cell? ⟨(ad.add (k * 5)).block, (ad.add (k * 5)).off + 4, none⟩ = some (.slice A4 x.f4.length c4)) := ⟨fun W hW => ⟨(hW.cell (World.block_lt_of_cell? _ _ e0)).trans e0, (hW.cell (World.block_lt_of_cell? _ _ e1)).trans e1, (hW.cell (World.block_lt_of_cell? _ _ e2)).trans e2, (hW.cell (World.block_lt_of_cell? _ _ e3)).trans e3, (hW.cell (World.block_lt_of_cell? _ _ e4)).trans e4⟩⟩
   have F2 := Aside0.mk (And.intro f2 l2)
   have F3 := Aside0.mk (And.intro f3 l3)
   have F4 := Aside0.mk (And.intro f4 l4)
   have HX := Aside0.mk hx
   have HSX := Aside0.mk (HS.out x hmx)
   subst eA
   clear e0 e1 e2 e3 e4 f2 f3 f4 l2 l3 l4 hx hmx hrd
   obtain ⟨b, hb, hbo⟩ := form_some x HSX.out.1 20010 (Nat.le_refl _)
   have HF := Aside0.mk hb
   have HO := Aside0.mk hbo
   clear hb hbo
   obtain ⟨e0, e1, e2, e3, e4⟩ := EW.out _ HB.out
   go_wp2_with fail
   refine (rubricref15_form.calls 20010 x.f0 x.f1 A2 c2 x.f2 A3 c3 x.f3 A4 c4 x.f4 b _ (Kd.C_below F2.out.1 HB.out) F2.out.2 (Kd.C_below F3.out.1 HB.out) F3.out.2 (Kd.C_below F4.out.1 HB.out) F4.out.2 HF.out).mono ?_
   rintro e w2 ⟨rfl, hb⟩
   have HB2 := Aside0.mk (below_step HB.out hb)
   clear hb HF e0 e1 e2 e3 e4
   cases b with
   | false =>
    go_wp2_with fail
    go_ret
    exact ⟨⟨3, rfl, fun h => by cases h⟩, HB2.out⟩
   | true =>
    have HOX := Aside0.mk (HO.out rfl)
    clear HO
    obtain ⟨e0, e1, e2, e3, e4⟩ := EW.out _ HB2.out
    go_wp2_with fail
    refine (may05 A0 c0 l0 A3 c3 x.f3 w2 (Kd.C_below HR0.out HB2.out) HC0.out (Kd.C_below F3.out.1 HB2.out) F3.out.2 HK.out HSX.out.2.1.1 HSX.out.2.1.2).mono ?_
    rintro e w3 ⟨⟨r, rfl⟩, hb⟩
    have HB3 := Aside0.mk (below_step HB2.out hb)
    clear hb
    clear e0 e1 e2 e3 e4
    by_cases hr : r = 3
    ·subst hr
     go_wp2_with fail
     go_ret
     exact ⟨⟨3, rfl, fun h => by cases h⟩, HB3.out⟩
    ·have hrb : (r == 3) = false := beq_eq_false_iff_ne.2 hr
     clear hr
     obtain ⟨e0, e1, e2, e3, e4⟩ := EW.out _ HB3.out
     go_wp2_with fail
     refine (may06 A0 c0 l0 A4 c4 x.f4 w3 (Kd.C_below HR0.out HB3.out) HC0.out (Kd.C_below F4.out.1 HB3.out) F4.out.2 HK.out HSX.out.2.2.1 HSX.out.2.2.2).mono ?_
     rintro e w4 ⟨⟨q, rfl⟩, hb⟩
     have HB4 := Aside0.mk (below_step HB3.out hb)
     clear hb
     clear e0 e1 e2 e3 e4
     by_cases hq : q = 3
     ·subst hq
      go_wp2_with fail
      go_ret
      exact ⟨⟨3, rfl, fun h => by cases h⟩, HB4.out⟩
     ·have hqb : (q == 3) = false := beq_eq_false_iff_ne.2 hq
      clear hq
      go_wp2_with fail
      go_roundw
      case rel =>
       refine ⟨k + 1, by omega, by go_num, HB4, ⟨fun j hj o ho => ?_⟩⟩
       by_cases hjk : j = k
       ·subst hjk; rw [HX.out] at ho; cases ho; exact HOX.out
       ·exact HOK.out j (by omega) o ho
      case measure => simp [intOf]; omega
  ·obtain rfl : k = l1.length := by omega
   have HALL : Aside0 (∀ o ∈ l1, OkO o) := ⟨fun o ho => by obtain ⟨j, hj, rfl⟩ := List.getElem_of_mem ho; exact HOK.out j hj _ (List.getElem?_eq_getElem hj)⟩
   clear HOK
   obtain ⟨t, ht⟩ := takes_some l1 hl 20001 (Nat.le_refl _)
   obtain ⟨m, hm⟩ := makes_some l1 hl 20001 (Nat.le_refl _)
   have HT := Aside0.mk ht
   have HM := Aside0.mk hm
   clear ht hm
   go_wp2_with fail
   refine (rubricref15_Takes.calls 20001 A1 c1 l1 t _ (Kd.C_below HR1.out HB.out) HC1.out HT.out).mono ?_
   rintro e w2 ⟨rfl, hb⟩
   have HB2 := Aside0.mk (below_step HB.out (Drawn0.below hb))
   clear hb HT HB
   by_cases ht : t > 536870912
   ·go_wp2_with fail
    go_ret
    exact ⟨⟨3, rfl, fun h => by cases h⟩, HB2.out⟩
   ·go_wp2_with fail
    refine (rubricref15_Makes.calls 20001 A1 c1 l1 m _ (Kd.C_below HR1.out HB2.out) HC1.out HM.out).mono ?_
    rintro e w3 ⟨rfl, hb⟩
    have HB3 := Aside0.mk (below_step HB2.out hb)
    clear hb HM HB2
    by_cases hm : m > 536870912
    ·go_wp2_with fail
     go_ret
     exact ⟨⟨3, rfl, fun h => by cases h⟩, HB3.out⟩
    ·go_wp2_with fail
     go_loopw [6] (fun i wr => ∃ k : Nat, k ≤ l1.length ∧ i = .int .i64 k ∧ Aside0 (Below w.heap.size w wr)) (fun i _ => l1.length - (intOf i).toNat)
     case atStart => exact ⟨0, Nat.zero_le _, rfl, HB3⟩
     case round =>
      clear HB3
      obtain ⟨k, hk, rfl, HB⟩ := hrel
      by_cases hlt : k < l1.length
      ·obtain ⟨ad, A2, c2, A3, c3, A4, c4, eA, e0, e1, e2, e3, e4, l2, f2, l3, f3, l4, f4⟩ := at_T30 HR1.out (k : Int) (by omega) (by omega)
       simp only [Int.toNat_natCast] at e0 e1 e2 e3 e4
       have hki : (k : Int) < (l1.length : Int) := by omega
       have q0 : (0 : Int) ≤ (k : Int) := Int.natCast_nonneg k
       obtain ⟨x, hx⟩ : ∃ x, l1[k]? = some x := ⟨_, List.getElem?_eq_getElem hlt⟩
       have hmx : x ∈ l1 := List.mem_of_getElem? hx
       have hrd : rd_T30 l1 (k : Int) = x := by rw [rd30_at l1 k hlt]; exact (List.getElem?_eq_some_iff.1 hx).2
       rw [hrd] at e0 e1 e2 e3 e4 l2 f2 l3 f3 l4 f4
       have EW : Aside0 (∀ W, Below w.heap.size w W → W.cell? (ad.add (k * 5)) = some (.int .u8 x.f0) ∧ W.cell? ⟨(ad.add (k * 5)).block, (ad.add (k * 5)).off + 1, none⟩ = some (.int .i64 x.f1) ∧ W.cell? ⟨(ad.add (k * 5)).block, (ad.add (k * 5)).off + 2, none⟩ = some (.slice A2 x.f2.length c2) ∧ W.cell? ⟨(ad.add (k * 5)).block, (ad.add (k * 5)).off + 3, none⟩ = some (.slice A3 x.f3.length c3) ∧ W.cell? ⟨(ad.add (k * 5)).block, (ad.add (k * 5)).off + 4, none⟩ = some (.slice A4 x.f4.length c4)) := ⟨fun W hW => ⟨(hW.cell (World.block_lt_of_cell? _ _ e0)).trans e0, (hW.cell (World.block_lt_of_cell? _ _ e1)).trans e1, (hW.cell (World.block_lt_of_cell? _ _ e2)).trans e2, (hW.cell (World.block_lt_of_cell? _ _ e3)).trans e3, (hW.cell (World.block_lt_of_cell? _ _ e4)).trans e4⟩⟩
       have F2 := Aside0.mk (And.intro f2 l2)
       have F3 := Aside0.mk (And.intro f3 l3)
       have F4 := Aside0.mk (And.intro f4 l4)
       have HX := Aside0.mk hx
       have HSX := Aside0.mk (HS.out x hmx)
       subst eA
       clear e0 e1 e2 e3 e4 f2 f3 f4 l2 l3 l4 hx hmx hrd
       obtain ⟨e0, e1, e2, e3, e4⟩ := EW.out _ HB.out
       go_wp2_with fail
       refine (may05 A0 c0 l0 A3 c3 x.f3 _ (Kd.C_below HR0.out HB.out) HC0.out (Kd.C_below F3.out.1 HB.out) F3.out.2 HK.out HSX.out.2.1.1 HSX.out.2.1.2).mono ?_
       rintro e w4 ⟨⟨r, rfl⟩, hb⟩
       have HB4 := Aside0.mk (below_step HB.out hb)
       clear hb
       clear e0 e1 e2 e3 e4
       by_cases hr : r = 0
       ·subst hr
        obtain ⟨e0, e1, e2, e3, e4⟩ := EW.out _ HB4.out
        go_wp2_with fail
        refine (may06 A0 c0 l0 A4 c4 x.f4 w4 (Kd.C_below HR0.out HB4.out) HC0.out (Kd.C_below F4.out.1 HB4.out) F4.out.2 HK.out HSX.out.2.2.1 HSX.out.2.2.2).mono ?_
        rintro e w5 ⟨⟨q, rfl⟩, hb⟩
        have HB5 := Aside0.mk (below_step HB4.out hb)
        clear hb
        clear e0 e1 e2 e3 e4
        by_cases hq : q = 0
        ·subst hq
         go_wp2_with fail
         go_roundw
         case rel => exact ⟨k + 1, by omega, by go_num, HB5⟩
         case measure => simp [intOf]; omega
        ·have hqb : (q != 0) = true := bne_iff_ne.2 hq
         clear hq
         go_wp2_with fail
         go_ret
         exact ⟨⟨4, rfl, fun h => by cases h⟩, HB5.out⟩
       ·have hrb : (r != 0) = true := bne_iff_ne.2 hr
        clear hr
        go_wp2_with fail
        go_ret
        exact ⟨⟨4, rfl, fun h => by cases h⟩, HB4.out⟩
      ·obtain rfl : k = l1.length := by omega
       go_wp2_with fail
       go_ret
       exact ⟨⟨0, rfl, fun _ => HALL.out⟩, HB.out⟩
def AnyT (w : World) (l : List S30) (e : Ending) (w' : World) : Prop := (∃ r : Bool, e = .returned (.bool r) ∧ (r = true → sz l ≤ 20000 ∧ ∀ o ∈ l, OkO o)) ∧ Below w.heap.size w w'
set_option maxHeartbeats 4000000 in
set_option maxRecDepth 100000 in
theorem tame8 (A0 : Option Addr) (c0 : Nat) (l0 : List S64) (A1 : Option Addr) (c1 : Nat) (l1 : List S30) (w : World) (hr0 : Kd.C k64 w A0 l0.length l0) (hc0 : l0.length ≤ c0) (hr1 : Kd.C k30 w A1 l1.length l1) (hc1 : l1.length ≤ c1) (hz : sz l1 ≤ 2000000) :
  Calls Try.prog 8 #[.slice A0 l0.length c0, .slice A1 l1.length c1] w (AnyT w l1) := by
 have HR0 := Aside0.mk hr0
 have HC0 := Aside0.mk hc0
 have HR1 := Aside0.mk hr1
 have HC1 := Aside0.mk hc1
 have HZ := Aside0.mk hz
 clear hr0 hc0 hr1 hc1 hz
 by_cases h64 : (l0.length : Int) > 64
 ·go_enter Try.func8, Try.ntmps8
  go_wp2_with fail
  go_ret
  exact ⟨⟨false, rfl, fun h => by cases h⟩, Below.refl _ _⟩
 ·go_enter Try.func8, Try.ntmps8
  go_wp2_with fail
  refine (rubricref15_Size.calls 6000001 A1 c1 l1 (sz l1 : Int) w HR1.out HC1.out (size_eq l1 HZ.out 6000001 (Nat.le_refl _))).mono ?_
  rintro e w2 ⟨rfl, hb⟩
  have HB2 := Aside0.mk (Drawn0.below hb)
  clear hb
  by_cases hs : (sz l1 : Int) > 20000
  ·go_wp2_with fail
   go_ret
   exact ⟨⟨false, rfl, fun h => by cases h⟩, HB2.out⟩
  ·go_wp2_with fail
   refine (may04 A0 c0 l0 w2 (Kd.C_below HR0.out HB2.out) HC0.out).mono ?_
   rintro e w3 ⟨⟨b, rfl⟩, hb⟩
   have HB3 := Aside0.mk (below_step HB2.out hb)
   clear hb
   cases b with
   | false =>
    go_wp2_with fail
    go_ret
    exact ⟨⟨false, rfl, fun h => by cases h⟩, HB3.out⟩
   | true =>
    have HL : Aside0 (l0.length ≤ 20000 ∧ sz l1 ≤ 20000) := ⟨by omega, by omega⟩
    go_wp2_with fail
    refine (may15 A0 c0 l0 A1 c1 l1 w3 (Kd.C_below HR0.out HB3.out) HC0.out (Kd.C_below HR1.out HB3.out) HC1.out HL.out.1 (Nat.le_trans (len_sz l1) HL.out.2) (fun o ho => by
     have h1 := sz_mem ho
     have h2 := HL.out.2
     unfold szO at h1
     exact ⟨by omega, ⟨by omega, fun a ha => by have := strA_mem ha; omega⟩, by omega, fun a ha => by have := strC_mem ha; omega⟩)).mono ?_
    rintro e w4 ⟨⟨r, rfl, hr⟩, hb⟩
    have HB4 := Aside0.mk (below_step HB3.out hb)
    have HR := Aside0.mk hr
    clear hb hr
    by_cases h0 : r = 0
    ·subst h0
     go_wp2_with fail
     go_ret
     exact ⟨⟨true, rfl, fun _ => ⟨HL.out.2, HR.out (by trivial)⟩⟩, HB4.out⟩
    ·have h0b : (r == 0) = false := beq_eq_false_iff_ne.2 h0
     have H0 := Aside0.mk h0
     clear h0
     go_wp2_with fail
     go_ret
     exact ⟨⟨false, rfl, fun h => by cases h⟩, HB4.out⟩
end Go.Proofs.Ytmjeoknamoegpaa.P
namespace Go.Proofs.Ytmjeoknamoegpaa.P
open Go.RowKit Go.Proofs.YtmjeoknamoegpaaW.PrintWords Go.Proofs.YtmjeoknamoegpaaW.PrintLast Go.Proofs.YtmjeoknamoegpaaW.PrintMore
set_option linter.unusedVariables false
set_option linter.unusedSimpArgs false
theorem C_of_block {α : Type} (d : Kd α) {W : World} {g t : Nat} {f : Nat × Nat} {cs : List Value} (hb : W.heap[g]? = some (.cells cs.toArray t f)) {xs : List α} (hr : Reps (d.K W) d.sz xs cs) (hn : xs.length ≤ 9223372036854775807) : Kd.C d W (some ⟨g, 0, none⟩) xs.length xs := by
 refine ⟨rfl, hn, fun _ => ⟨_, rfl, fun j p hj => ?_⟩⟩
 have hjl : j < xs.length := (List.getElem?_eq_some_iff.1 hj).1
 have hle : j * d.sz + d.sz ≤ cs.length := by rw [hr.1, ← Nat.succ_mul]; exact Nat.mul_le_mul_right _ hjl
 refine ⟨(cs.drop (j * d.sz)).take d.sz, by rw [List.length_take, List.length_drop]; omega, hr.2 j p hj, fun i u hu => ?_⟩
 have hi : i < d.sz := by have := (List.getElem?_eq_some_iff.1 hu).1; rw [List.length_take] at this; omega
 rw [List.getElem?_take_of_lt hi, List.getElem?_drop] at hu
 have ha : (⟨g, 0, none⟩ : Addr).add (j * d.sz + i) = ⟨g, j * d.sz + i, none⟩ := by
  unfold Addr.add
  split
  ·rename_i h; rw [h]
  ·simp
 rw [ha]
 simp only [World.cell?, hb]
 simpa using hu
def K1 : List S30 := [⟨3, 2, [], [], []⟩, ⟨2, 0, [97], [], []⟩, ⟨2, 0, [98], [], []⟩, ⟨1, 4, [], [], []⟩]
def K2 : List S30 := [⟨2, 0, [97, 98], [], []⟩, ⟨3, 2, [], [], []⟩]
theorem C_ints (W : World) (b : Nat) (cs : List Int) (h : W.heap[b]? = some (.cells (cs.map (Value.int .i32)).toArray 21 (0, 0))) (hn : cs.length ≤ 9223372036854775807) : Kd.C (Kd.int .i32) W (some ⟨b, 0, none⟩) cs.length cs := by
 refine C_of_block (Kd.int .i32) (xs := cs) h ?_ hn
 have : ∀ l : List Int, Reps ((Kd.int .i32).K W) (Kd.int .i32).sz l (l.map (Value.int .i32)) := by
  intro l
  induction l with
  | nil => exact Reps.none _ _
  | cons a l ih => exact Reps.front (c := [Value.int .i32 a]) rfl rfl ih rfl
 exact this cs
theorem known_v1 : normal_Of.f K1 = some K2 := by kernel_rfl
theorem known_v2 : ops_Same.f K2 K2 = some true := by kernel_rfl
theorem known_v3 : normal_Is.f K2 = some true := by kernel_rfl
theorem known_c1 (w : World) : Kd.C k30 (((w.alloc (.cells #[.int .i32 97] 21)).alloc (.cells #[.int .i32 98] 21)).alloc (.cells #[.int .u8 3, .int .i64 2, .slice none 0 0, .slice none 0 0, .slice none 0 0, .int .u8 2, .int .i64 0, .slice (some ⟨w.heap.size, 0, none⟩) 1 1, .slice none 0 0, .slice none 0 0, .int .u8 2, .int .i64 0, .slice (some ⟨w.heap.size + 1, 0, none⟩) 1 1, .slice none 0 0, .slice none 0 0, .int .u8 1, .int .i64 4, .slice none 0 0, .slice none 0 0, .slice none 0 0] 30)) (some ⟨w.heap.size + 1 + 1, 0, none⟩) K1.length K1 := by
 have h1 := heap_alloc_new w (.cells #[.int .i32 97] 21)
 obtain ⟨W1, hW1⟩ : ∃ W1, w.alloc (.cells #[.int .i32 97] 21) = W1 := ⟨_, rfl⟩
 have hs1 : W1.heap.size = w.heap.size + 1 := by rw [← hW1]; simp
 rw [hW1] at h1 ⊢
 have h2 := heap_alloc_new W1 (.cells #[.int .i32 98] 21)
 have b2 := below_alloc (Below.refl W1.heap.size W1) (.cells #[.int .i32 98] 21)
 obtain ⟨W2, hW2⟩ : ∃ W2, W1.alloc (.cells #[.int .i32 98] 21) = W2 := ⟨_, rfl⟩
 have hs2 : W2.heap.size = w.heap.size + 1 + 1 := by rw [← hW2]; simp [hs1]
 rw [hW2] at h2 b2 ⊢
 have h3 := heap_alloc_new W2 (.cells #[.int .u8 3, .int .i64 2, .slice none 0 0, .slice none 0 0, .slice none 0 0, .int .u8 2, .int .i64 0, .slice (some ⟨w.heap.size, 0, none⟩) 1 1, .slice none 0 0, .slice none 0 0, .int .u8 2, .int .i64 0, .slice (some ⟨w.heap.size + 1, 0, none⟩) 1 1, .slice none 0 0, .slice none 0 0, .int .u8 1, .int .i64 4, .slice none 0 0, .slice none 0 0, .slice none 0 0] 30)
 have b3 := below_alloc (Below.refl W2.heap.size W2) (.cells #[.int .u8 3, .int .i64 2, .slice none 0 0, .slice none 0 0, .slice none 0 0, .int .u8 2, .int .i64 0, .slice (some ⟨w.heap.size, 0, none⟩) 1 1, .slice none 0 0, .slice none 0 0, .int .u8 2, .int .i64 0, .slice (some ⟨w.heap.size + 1, 0, none⟩) 1 1, .slice none 0 0, .slice none 0 0, .int .u8 1, .int .i64 4, .slice none 0 0, .slice none 0 0, .slice none 0 0] 30)
 obtain ⟨W3, hW3⟩ : ∃ W3, W2.alloc (.cells #[.int .u8 3, .int .i64 2, .slice none 0 0, .slice none 0 0, .slice none 0 0, .int .u8 2, .int .i64 0, .slice (some ⟨w.heap.size, 0, none⟩) 1 1, .slice none 0 0, .slice none 0 0, .int .u8 2, .int .i64 0, .slice (some ⟨w.heap.size + 1, 0, none⟩) 1 1, .slice none 0 0, .slice none 0 0, .int .u8 1, .int .i64 4, .slice none 0 0, .slice none 0 0, .slice none 0 0] 30) = W3 := ⟨_, rfl⟩
 rw [hW3] at h3 b3 ⊢
 rw [hs1] at h2
 rw [hs2] at h3
 have C1 := C_ints W3 w.heap.size [97] ((b3.block _ (by omega)).trans ((b2.block _ (by omega)).trans h1)) (by decide)
 have C2 := C_ints W3 (w.heap.size + 1) [98] ((b3.block _ (by omega)).trans h2) (by decide)
 exact C_of_block k30 (xs := K1) (cs := [.int .u8 3, .int .i64 2, .slice none 0 0, .slice none 0 0, .slice none 0 0, .int .u8 2, .int .i64 0, .slice (some ⟨w.heap.size, 0, none⟩) 1 1, .slice none 0 0, .slice none 0 0, .int .u8 2, .int .i64 0, .slice (some ⟨w.heap.size + 1, 0, none⟩) 1 1, .slice none 0 0, .slice none 0 0, .int .u8 1, .int .i64 4, .slice none 0 0, .slice none 0 0, .slice none 0 0]) h3
  (Reps.c5 (k30_mk _ ⟨3, 2, [], [], []⟩ (by decide) (Kd.C_nil _ _) (by decide) (Kd.C_nil _ _) (by decide) (Kd.C_nil _ _)) (Reps.c5 (k30_mk _ ⟨2, 0, [97], [], []⟩ (by decide) C1 (by decide) (Kd.C_nil _ _) (by decide) (Kd.C_nil _ _)) (Reps.c5 (k30_mk _ ⟨2, 0, [98], [], []⟩ (by decide) C2 (by decide) (Kd.C_nil _ _) (by decide) (Kd.C_nil _ _)) (Reps.c5 (k30_mk _ ⟨1, 4, [], [], []⟩ (by decide) (Kd.C_nil _ _) (by decide) (Kd.C_nil _ _) (by decide) (Kd.C_nil _ _)) (Reps.none _ _))))) (by decide)
theorem known_c2 (w : World) : Kd.C k30 ((w.alloc (.cells #[.int .i32 97, .int .i32 98] 21)).alloc (.cells #[.int .u8 2, .int .i64 0, .slice (some ⟨w.heap.size, 0, none⟩) 2 2, .slice none 0 0, .slice none 0 0, .int .u8 3, .int .i64 2, .slice none 0 0, .slice none 0 0, .slice none 0 0] 30)) (some ⟨w.heap.size + 1, 0, none⟩) K2.length K2 := by
 have h1 := heap_alloc_new w (.cells #[.int .i32 97, .int .i32 98] 21)
 obtain ⟨W1, hW1⟩ : ∃ W1, w.alloc (.cells #[.int .i32 97, .int .i32 98] 21) = W1 := ⟨_, rfl⟩
 have hs1 : W1.heap.size = w.heap.size + 1 := by rw [← hW1]; simp
 rw [hW1] at h1 ⊢
 have h3 := heap_alloc_new W1 (.cells #[.int .u8 2, .int .i64 0, .slice (some ⟨w.heap.size, 0, none⟩) 2 2, .slice none 0 0, .slice none 0 0, .int .u8 3, .int .i64 2, .slice none 0 0, .slice none 0 0, .slice none 0 0] 30)
 have b3 := below_alloc (Below.refl W1.heap.size W1) (.cells #[.int .u8 2, .int .i64 0, .slice (some ⟨w.heap.size, 0, none⟩) 2 2, .slice none 0 0, .slice none 0 0, .int .u8 3, .int .i64 2, .slice none 0 0, .slice none 0 0, .slice none 0 0] 30)
 obtain ⟨W3, hW3⟩ : ∃ W3, W1.alloc (.cells #[.int .u8 2, .int .i64 0, .slice (some ⟨w.heap.size, 0, none⟩) 2 2, .slice none 0 0, .slice none 0 0, .int .u8 3, .int .i64 2, .slice none 0 0, .slice none 0 0, .slice none 0 0] 30) = W3 := ⟨_, rfl⟩
 rw [hW3] at h3 b3 ⊢
 rw [hs1] at h3
 have C1 := C_ints W3 w.heap.size [97, 98] ((b3.block _ (by omega)).trans h1) (by decide)
 exact C_of_block k30 (xs := K2) (cs := [.int .u8 2, .int .i64 0, .slice (some ⟨w.heap.size, 0, none⟩) 2 2, .slice none 0 0, .slice none 0 0, .int .u8 3, .int .i64 2, .slice none 0 0, .slice none 0 0, .slice none 0 0]) h3
  (Reps.c5 (k30_mk _ ⟨2, 0, [97, 98], [], []⟩ (by decide) C1 (by decide) (Kd.C_nil _ _) (by decide) (Kd.C_nil _ _)) (Reps.c5 (k30_mk _ ⟨3, 2, [], [], []⟩ (by decide) (Kd.C_nil _ _) (by decide) (Kd.C_nil _ _) (by decide) (Kd.C_nil _ _)) (Reps.none _ _))) (by decide)
set_option maxHeartbeats 8000000 in
set_option maxRecDepth 100000 in
theorem known_in (w : World) : Calls Try.prog 9 #[] w fun e w' => e = .returned (.bool true) ∧ Below w.heap.size w w' := by
 go_enter Try.func9, Try.ntmps9
 go_wp2_with fail
 refine (normal_Of.calls _ 4 K1 K2 _ (known_c1 w) (by decide) known_v1).mono ?_
 rintro e w1 ⟨v, rfl, hS, hb⟩
 have HB := Aside0.mk (below_step (below_alloc (below_alloc (below_alloc (Below.refl w.heap.size w) _) _) _) hb)
 obtain ⟨A, c, rfl⟩ := Kd.S_slice hS
 have HS := Aside0.mk hS
 clear hS hb
 go_wp2_with fail
 refine (ops_Same.calls A c K2 _ 2 K2 true _ (Kd.C_below (Kd.S_reads' HS.out).2.2 (below_alloc (below_alloc (Below.refl _ _) _) _)) (Kd.S_reads' HS.out).2.1 (known_c2 w1) (by decide) known_v2).mono ?_
 rintro e w2 ⟨rfl, hb⟩
 have HB2 := Aside0.mk (below_step (below_alloc (below_alloc (Below.refl w1.heap.size w1) _) _) hb)
 clear hb
 go_wp2_with fail
 refine (normal_Is.calls A c K2 true _ (Kd.C_below (Kd.S_reads' HS.out).2.2 HB2.out) (Kd.S_reads' HS.out).2.1 known_v3).mono ?_
 rintro e w3 ⟨rfl, hb⟩
 have HB3 := Aside0.mk (below_step HB.out (below_step HB2.out hb))
 clear hb
 go_wp2_with fail
 go_ret
 exact ⟨rfl, HB3.out⟩
def rubriclaw16_known.f  : Option (Bool) := some true
theorem rubriclaw16_known.calls  (r : Bool) (w : World) (h : rubriclaw16_known.f  = some r) :
  Calls Try.prog 9 #[] w fun e w' => e = .returned (.bool r) ∧ Below w.heap.size w w' := by
 obtain rfl := Option.some.inj h
 exact known_in w
end Go.Proofs.Ytmjeoknamoegpaa.P
