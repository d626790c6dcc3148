-- by hand: NormalMany's walk
import Derived.Test.YtmjeoknamoegpaaManyA
import Derived.Test.YtmjeoknamoegpaaKnown
import Derived.Test.YtmjeoknamoegpaaPx11
namespace Go.Proofs.Ytmjeoknamoegpaa.P
open Go.RowKit Go.Proofs.YtmjeoknamoegpaaW.PrintWords Go.Proofs.YtmjeoknamoegpaaW.PrintLast Go.Proofs.YtmjeoknamoegpaaW.PrintMore
set_option linter.unusedVariables false
set_option linter.unusedSimpArgs false
abbrev MSt := List S30 × List S30 × Int
def stepM (ah : Bool) (s : MSt) (o : S30) : MSt :=
  if o.f0 = 1 then (flushM ah s.1 s.2.1 s.2.2 ++ [o], [], 0) else if o.f0 = 2 then (s.1, s.2.1 ++ [o], s.2.2) else (s.1, s.2.1, wrap64 (s.2.2 + o.f1))
def foldM (ah : Bool) (l : List S30) : MSt := l.foldl (stepM ah) ([], [], 0)
def yM (ah : Bool) (l : List S30) : List S30 := flushM ah (foldM ah l).1 (foldM ah l).2.1 (foldM ah l).2.2
theorem foldM_succ (ah : Bool) (l : List S30) (k : Nat) (x : S30) (h : l[k]? = some x) : foldM ah (l.take (k + 1)) = stepM ah (foldM ah (l.take k)) x := by
  unfold foldM
  rw [List.take_add_one, h]
  simp [List.foldl_append]
theorem flushM_len (ah : Bool) (Y Q : List S30) (g : Int) : (flushM ah Y Q g).length ≤ Y.length + Q.length + 1 := by
  unfold flushM
  simp only [List.length_append]
  by_cases h : 0 < g
  · cases ah <;> simp [h] <;> omega
  · simp [h]
theorem foldM_len (ah : Bool) : ∀ (l : List S30) (s : MSt), (l.foldl (stepM ah) s).1.length + (l.foldl (stepM ah) s).2.1.length ≤ s.1.length + s.2.1.length + 2 * l.length
  | [], s => by simp
  | o :: l, s => by
    have h := foldM_len ah l (stepM ah s o)
    have h2 : (stepM ah s o).1.length + (stepM ah s o).2.1.length ≤ s.1.length + s.2.1.length + 2 := by
      unfold stepM
      split
      · have := flushM_len ah s.1 s.2.1 s.2.2
        simp only [List.length_append, List.length_singleton, List.length_nil]; omega
      · split
        · simp only [List.length_append, List.length_singleton]; omega
        · simp only; omega
    simp only [List.foldl_cons, List.length_cons]
    omega
def rubriclaw16_NormalMany.f (k : Nat) (l0 : List S64) (l1 : List S30) (b : Bool) : Option Bool :=
  (rubriclaw16_tame.f k l0 l1).bind fun t => if t = true then (if (l1.length : Int) > 40 then some true else (normal_Of.f (yM b l1)).bind fun a => (normal_Of.f l1).bind fun c => ops_Same.f a c) else some true
def MI (w wr : World) (P : Four) (b : Bool) (s : MSt) : Prop := Below w.heap.size w wr ∧ ∃ vy vq okY okQ, MSY wr w.heap.size P b s.2.2 vy okY s.1 vq ∧ QP wr w.heap.size P okY vq okQ s.2.1
theorem MI.start (w w1 : World) (b : Bool) (pa : Nat) (hb : Below w.heap.size w w1) (hpa : w1.heap[pa]? = some (.cells #[.bool b] 4 (0, 0))) (hp : w.heap.size ≤ pa) : MI w (((w1.alloc (.cells #[.slice none 0 0] 23)).alloc (.cells #[.slice none 0 0] 23)).alloc (.cells #[.int .i64 0] 3)) ⟨w1.heap.size + 1 + 1, pa, w1.heap.size, w1.heap.size + 1⟩ b ([], [], 0) := by
  have hz := hb.size
  have hl := blk_lt hpa
  have s1 : (w1.alloc (.cells #[.slice none 0 0] 23)).heap.size = w1.heap.size + 1 := by simp
  have s2 : ((w1.alloc (.cells #[.slice none 0 0] 23)).alloc (.cells #[.slice none 0 0] 23)).heap.size = w1.heap.size + 1 + 1 := by simp
  have h1 := heap_alloc_new w1 (.cells #[.slice none 0 0] 23)
  have h2 := heap_alloc_new (w1.alloc (.cells #[.slice none 0 0] 23)) (.cells #[.slice none 0 0] 23)
  have h3 := heap_alloc_new ((w1.alloc (.cells #[.slice none 0 0] 23)).alloc (.cells #[.slice none 0 0] 23)) (.cells #[.int .i64 0] 3)
  rw [s1] at h2
  rw [s2] at h3
  refine ⟨below_step hb (below_alloc (below_alloc (below_alloc (Below.refl _ _) _) _) _), .slice none 0 0, .slice none 0 0, fun _ => False, fun _ => False, ⟨h3, blk_alloc (blk_alloc (blk_alloc hpa _) _) _, blk_alloc (blk_alloc h1 _) _, blk_alloc h2 _, ⟨?_, ?_, ?_, ?_⟩, ⟨?_, ?_, ?_, ?_, ?_, ?_⟩, Kd.N_nil _ _ _ _ _, fun k hk => hk.elim⟩, QP.nil _ _ _ _⟩
  all_goals (simp only; omega)
theorem okp_base {W : World} {base : Nat} {P : Four} {ah : Bool} {g : Int} {vy vq : Value} {okY : Nat → Prop} {Y : List S30} (h : MSY W base P ah g vy okY Y vq) : ∀ j, j < base → (j < base ∨ okY j ∨ W.heap.size ≤ j) ∧ some j ≠ vy.ownBlock := fun j hj => ⟨.inl hj, fun e_ => by have := Kd.N_base h.nY j e_.symm; omega⟩
theorem ok_base {W : World} {base : Nat} {P : Four} {ah : Bool} {g : Int} {vy vq : Value} {okY : Nat → Prop} {Y : List S30} (h : MSY W base P ah g vy okY Y vq) : ∀ j, (j < base ∨ okY j ∨ W.heap.size ≤ j) → j < base ∨ P.off j := fun j hj => by
  rcases hj with hj | hj | hj
  · exact .inl hj
  · exact (h.oY j hj).2
  · exact .inr (h.newOff j hj)
theorem F_zero {α : Type} (d : Kd α) (W : World) (ok : Nat → Prop) (A : Option Addr) : Kd.F d W ok A ([] : List α).length [] := fun W' _ => ⟨rfl, by simp, fun h => absurd h (by simp)⟩
set_option maxHeartbeats 4000000 in
set_option maxRecDepth 100000 in
theorem many_0 (A0 : Option Addr) (c0 : Nat) (l0 : List S64) (A1 : Option Addr) (c1 : Nat) (l1 : List S30) (b : Bool) (w : World) (k : Nat) (t : Bool) (hr0 : Kd.C k64 w A0 l0.length l0) (hc0 : l0.length ≤ c0) (hr1 : Kd.C k30 w A1 l1.length l1) (hc1 : l1.length ≤ c1) (ht : rubriclaw16_tame.f k l0 l1 = some false) :
    Calls Try.prog 3 #[.slice A0 l0.length c0, .slice A1 l1.length c1, .bool b] w fun e w' => e = .returned (.bool true) ∧ Below w.heap.size w w' := by
  have hT := Aside0.mk (rubriclaw16_tame.calls k A0 c0 l0 A1 c1 l1 false (w.alloc (.cells #[.bool b] 4)) (Kd.C_alloc hr0 _) hc0 (Kd.C_alloc hr1 _) hc1 ht)
  have HB := Aside0.mk (below_alloc (Below.refl w.heap.size w) (.cells #[.bool b] 4))
  clear hr0 hr1 ht
  go_enter Try.func3, Try.ntmps3
  go_wp2_with fail
  go_at_call 8
  refine hT.out.mono ?_
  rintro e w1 ⟨rfl, hb⟩
  have HB1 := Aside0.mk (below_step HB.out hb)
  clear hT hb
  go_wp2_with fail
  go_at_call 9
  refine (known_in w1).mono ?_
  rintro e w2 ⟨rfl, hb⟩
  have HB2 := Aside0.mk (below_step HB1.out hb)
  clear hb
  go_wp2_with fail
  go_ret
  exact ⟨rfl, HB2.out⟩
set_option maxHeartbeats 4000000 in
set_option maxRecDepth 100000 in
theorem many_1 (A0 : Option Addr) (c0 : Nat) (l0 : List S64) (A1 : Option Addr) (c1 : Nat) (l1 : List S30) (b : Bool) (w : World) (k : Nat) (hr0 : Kd.C k64 w A0 l0.length l0) (hc0 : l0.length ≤ c0) (hr1 : Kd.C k30 w A1 l1.length l1) (hc1 : l1.length ≤ c1) (ht : rubriclaw16_tame.f k l0 l1 = some true) (hl : decide ((40 : Int) < (l1.length : Int)) = true) :
    Calls Try.prog 3 #[.slice A0 l0.length c0, .slice A1 l1.length c1, .bool b] w fun e w' => e = .returned (.bool true) ∧ Below w.heap.size w w' := by
  have hT := Aside0.mk (rubriclaw16_tame.calls k A0 c0 l0 A1 c1 l1 true (w.alloc (.cells #[.bool b] 4)) (Kd.C_alloc hr0 _) hc0 (Kd.C_alloc hr1 _) hc1 ht)
  have HB := Aside0.mk (below_alloc (Below.refl w.heap.size w) (.cells #[.bool b] 4))
  clear hr0 hr1 ht
  go_enter Try.func3, Try.ntmps3
  go_wp2_with fail
  go_at_call 8
  refine hT.out.mono ?_
  rintro e w1 ⟨rfl, hb⟩
  have HB1 := Aside0.mk (below_step HB.out hb)
  clear hT hb
  go_wp2_with fail
  go_at_call 9
  refine (known_in w1).mono ?_
  rintro e w2 ⟨rfl, hb⟩
  have HB2 := Aside0.mk (below_step HB1.out hb)
  clear hb
  go_wp2_with fail
  go_ret
  exact ⟨rfl, HB2.out⟩
set_option maxHeartbeats 4000000 in
set_option maxRecDepth 100000 in
theorem many_2 (A0 : Option Addr) (c0 : Nat) (l0 : List S64) (A1 : Option Addr) (c1 : Nat) (l1 : List S30) (b : Bool) (w : World) (k : Nat) (hr0 : Kd.C k64 w A0 l0.length l0) (hc0 : l0.length ≤ c0) (hr1 : Kd.C k30 w A1 l1.length l1) (hc1 : l1.length ≤ c1) (ht : rubriclaw16_tame.f k l0 l1 = some true) (hl : decide ((40 : Int) < (l1.length : Int)) = false) (a d : List S30) (r : Bool) (ha : normal_Of.f (yM b l1) = some a) (hd : normal_Of.f l1 = some d) (hs : ops_Same.f a d = some r) :
    Calls Try.prog 3 #[.slice A0 l0.length c0, .slice A1 l1.length c1, .bool b] w fun e w' => e = .returned (.bool r) ∧ Below w.heap.size w w' := by
  have hT := Aside0.mk (rubriclaw16_tame.calls k A0 c0 l0 A1 c1 l1 true (w.alloc (.cells #[.bool b] 4)) (Kd.C_alloc hr0 _) hc0 (Kd.C_alloc hr1 _) hc1 ht)
  have HB := Aside0.mk (below_alloc (Below.refl w.heap.size w) (.cells #[.bool b] 4))
  have BA := Aside0.mk (heap_alloc_new w (.cells #[.bool b] 4))
  have HR := Aside0.mk hr1
  have HA := Aside0.mk ha
  have HD := Aside0.mk hd
  have HS := Aside0.mk hs
  have h40 : l1.length ≤ 40 := by have := of_decide_eq_false hl; omega
  clear hr0 hr1 ht ha hd hs
  go_enter Try.func3, Try.ntmps3
  go_wp2_with fail
  go_at_call 8
  refine hT.out.mono ?_
  rintro e w1 ⟨rfl, hb⟩
  have HB1 := Aside0.mk (below_step HB.out hb)
  replace BA := Aside0.mk (blk_below BA.out hb)
  clear hT hb HB
  have HI := Aside0.mk (MI.start w w1 b w.heap.size HB1.out BA.out (Nat.le_refl _))
  go_wp2_with fail
  generalize ((w1.alloc (.cells #[.slice none 0 0] 23)).alloc (.cells #[.slice none 0 0] 23)).alloc (.cells #[.int .i64 0] 3) = w2 at HI ⊢
  generalize w1.heap.size + 1 + 1 = pg at HI ⊢
  generalize w1.heap.size + 1 = pq at HI ⊢
  generalize w1.heap.size = py at HI ⊢
  have HI0 : Aside0 (MI w w2 ⟨pg, w.heap.size, py, pq⟩ b (foldM b (l1.take 0))) := HI
  clear HI BA
  go_loopw [26] (fun i wr => ∃ k : Nat, k ≤ l1.length ∧ i = .int .i64 k ∧ Aside0 (MI w wr ⟨pg, w.heap.size, py, pq⟩ b (foldM b (l1.take k)))) (fun i _ => l1.length - (intOf i).toNat)
  case atStart => exact ⟨0, Nat.zero_le _, rfl, HI0⟩
  case round =>
    clear HI0
    obtain ⟨k, hk, rfl, HI⟩ := hrel
    have hlen := foldM_len b (l1.take k) ([], [], 0)
    have hlk : (l1.take k).length ≤ 40 := by rw [List.length_take]; omega
    have HLEN : Aside0 ((foldM b (l1.take k)).1.length ≤ 80 ∧ (foldM b (l1.take k)).2.1.length ≤ 80) := ⟨by unfold foldM; simp only [List.length_nil] at hlen; omega, by unfold foldM; simp only [List.length_nil] at hlen; omega⟩
    clear hlen hlk
    by_cases hlt : k < l1.length
    · obtain ⟨x, hx⟩ : ∃ x, l1[k]? = some x := ⟨_, List.getElem?_eq_getElem hlt⟩
      have hst1 : foldM b (l1.take (k + 1)) = stepM b (foldM b (l1.take k)) x := foldM_succ b l1 k x hx
      have hB := HI.out.1
      have hrd : rd_T30 l1 (k : Int) = x := by rw [rd30_get l1 k hlt]; exact (List.getElem?_eq_some_iff.1 hx).2
      obtain ⟨ad, A2, c2, A3, c3, A4, c4, eA, e0, e1, e2, e3, e4, l2, f2, l3, f3, l4, f4⟩ := at_T30 HR.out (k : Int) (by omega) (by omega)
      rw [hrd] at e0 e1 e2 e3 e4 l2 f2 l3 f3 l4 f4
      simp only [Int.toNat_natCast] at e0 e1 e2 e3 e4
      have hin : ∀ W', Below w.heap.size w W' → W'.cell? (ad.add (k * 5)) = some (.int .u8 x.f0) ∧ W'.cell? ⟨(ad.add (k * 5)).block, (ad.add (k * 5)).off + 1, none⟩ = some (.int .i64 x.f1) ∧ W'.cell? ⟨(ad.add (k * 5)).block, (ad.add (k * 5)).off + 2, none⟩ = some (.slice A2 x.f2.length c2) ∧ W'.cell? ⟨(ad.add (k * 5)).block, (ad.add (k * 5)).off + 3, none⟩ = some (.slice A3 x.f3.length c3) ∧ W'.cell? ⟨(ad.add (k * 5)).block, (ad.add (k * 5)).off + 4, none⟩ = some (.slice A4 x.f4.length c4) := fun W' hb => ⟨(hb.cell (World.block_lt_of_cell? _ _ e0)).trans e0, (hb.cell (World.block_lt_of_cell? _ _ e1)).trans e1, (hb.cell (World.block_lt_of_cell? _ _ e2)).trans e2, (hb.cell (World.block_lt_of_cell? _ _ e3)).trans e3, (hb.cell (World.block_lt_of_cell? _ _ e4)).trans e4⟩
      have EIN := Aside0.mk hin
      clear hin
      replace e0 := (hB.cell (World.block_lt_of_cell? _ _ e0)).trans e0
      replace e1 := (hB.cell (World.block_lt_of_cell? _ _ e1)).trans e1
      replace e2 := (hB.cell (World.block_lt_of_cell? _ _ e2)).trans e2
      replace e3 := (hB.cell (World.block_lt_of_cell? _ _ e3)).trans e3
      replace e4 := (hB.cell (World.block_lt_of_cell? _ _ e4)).trans e4
      have q1 : (k : Int) < (l1.length : Int) := by omega
      have q0 : (0 : Int) ≤ (k : Int) := Int.natCast_nonneg k
      subst eA
      have F2 := Aside0.mk (Kd.C_F (Kd.heap_int .i32) f2)
      have F3 := Aside0.mk (Kd.C_F k40_heap f3)
      have F4 := Aside0.mk (Kd.C_F k42_heap f4)
      generalize foldM b (l1.take k) = s at HI hst1 HLEN
      obtain ⟨Y, Q, g⟩ := s
      obtain ⟨hB1, vy, vq, okY, okQ, hM, hQ⟩ := HI.out
      obtain ⟨Ay, cy, rfl⟩ := Kd.N_slice hM.nY
      obtain ⟨Aq, cq, rfl⟩ := Kd.N_slice hQ.nQ
      have HM := Aside0.mk hM
      have HQ := Aside0.mk hQ
      have HB2 := Aside0.mk hB1
      have HST := Aside0.mk hst1
      clear hB hrd f2 f3 f4 hx hst1 hM hQ hB1 HI
      by_cases h1 : x.f0 = 1
      · have hb1 : (x.f0 == 1) = true := beq_iff_eq.2 h1
        go_wp2_with fail
        refine (flush_calls w wr w.heap.size ⟨pg, w.heap.size, py, pq⟩ b g (.slice Ay Y.length cy) (.slice Aq Q.length cq) okY okQ Y Q HM.out HB2.out HB2.out.size (by have := HLEN.out; omega) (by have := HLEN.out; omega) HQ.out).mono ?_
        rintro e w4 ⟨rfl, hF⟩
        obtain ⟨hB4, vy4, okY4, hM4⟩ := hF
        have hfl := flushM_len b Y Q g
        have HFL : Aside0 ((flushM b Y Q g).length ≤ 200) := ⟨by have := HLEN.out; omega⟩
        have hst2 : foldM b (l1.take (k + 1)) = (flushM b Y Q g ++ [x], [], 0) := by rw [HST.out, stepM, if_pos h1]
        generalize flushM b Y Q g = Y4 at hM4 hst2 HFL
        obtain ⟨Ay4, cy4, rfl⟩ := Kd.N_slice hM4.nY
        have HST2 := Aside0.mk hst2
        have HM4 := Aside0.mk hM4
        have HB4 := Aside0.mk hB4
        have HX1 := Aside0.mk h1
        rw [h1] at EIN
        obtain ⟨x0, x1, x2, x3, x4⟩ := EIN.out w4 hB4
        clear hM4 hB4 hst2 hfl HM HQ HB2 HST e0 e1 e2 e3 e4 HLEN h1 hb1
        by_cases hz : x.f4.length = 0
        · have hzb : ((x.f4.length : Int) == 0) = true := beq_iff_eq.2 (by omega)
          go_upto_region 16 with (fail)
          have hblk : ((w4.alloc (.cells #[.int .u8 1, .int .i64 x.f1, .slice A2 x.f2.length c2, .slice A3 x.f3.length c3, .slice (some ⟨w4.heap.size + 1, 0, none⟩) 0 0] 30)).alloc (.cells #[] 42)).heap[w4.heap.size]? = some (.cells #[.int .u8 1, .int .i64 x.f1, .slice A2 x.f2.length c2, .slice A3 x.f3.length c3, .slice (some ⟨w4.heap.size + 1, 0, none⟩) 0 0] 30 (0, 0)) := blk_alloc (heap_alloc_new w4 _) _
          have hbw : Below w4.heap.size w4 ((w4.alloc (.cells #[.int .u8 1, .int .i64 x.f1, .slice A2 x.f2.length c2, .slice A3 x.f3.length c3, .slice (some ⟨w4.heap.size + 1, 0, none⟩) 0 0] 30)).alloc (.cells #[] 42)) := below_alloc (below_alloc (Below.refl _ _) _) _
          generalize (w4.alloc (.cells #[.int .u8 1, .int .i64 x.f1, .slice A2 x.f2.length c2, .slice A3 x.f3.length c3, .slice (some ⟨w4.heap.size + 1, 0, none⟩) 0 0] 30)).alloc (.cells #[] 42) = w5 at hblk hbw ⊢
          have HB5 := Aside0.mk (below_step HB4.out hbw)
          have HM5 := Aside0.mk (HM4.out.below hbw)
          have hfk : Kd.FK k30 w5 (fun j => j < w.heap.size) x [.int .u8 1, .int .i64 x.f1, .slice A2 x.f2.length c2, .slice A3 x.f3.length c3, .slice (some ⟨w4.heap.size + 1, 0, none⟩) 0 0] := by
            have hF4 : Kd.F k42 w5 (fun j => j < w.heap.size) (some ⟨w4.heap.size + 1, 0, none⟩) x.f4.length x.f4 := by rw [List.length_eq_zero_iff.1 hz]; exact F_zero _ _ _ _
            have h := k30_mkF w5 (fun j => j < w.heap.size) x l2 (Kd.F_below F2.out HB5.out) l3 (Kd.F_below F3.out HB5.out) (c4 := 0) (Nat.le_of_eq hz) hF4
            rw [HX1.out, hz] at h
            exact h
          have HFK := Aside0.mk hfk
          have y0 : w5.cell? ⟨w4.heap.size, 0, none⟩ = some (.int .u8 1) := (blk_cell hblk 0).trans rfl
          have y1 : w5.cell? ⟨w4.heap.size, 1, none⟩ = some (.int .i64 x.f1) := (blk_cell hblk 1).trans rfl
          have y2 : w5.cell? ⟨w4.heap.size, 2, none⟩ = some (.slice A2 x.f2.length c2) := (blk_cell hblk 2).trans rfl
          have y3 : w5.cell? ⟨w4.heap.size, 3, none⟩ = some (.slice A3 x.f3.length c3) := (blk_cell hblk 3).trans rfl
          have y4 : w5.cell? ⟨w4.heap.size, 4, none⟩ = some (.slice (some ⟨w4.heap.size + 1, 0, none⟩) 0 0) := (blk_cell hblk 4).trans rfl
          have yy : w5.cell? ⟨py, 0, none⟩ = some (.slice Ay4 Y4.length cy4) := (blk_cell HM5.out.by_ 0).trans rfl
          have hlY := HFL.out
          clear hblk hbw hfk x0 x1 x2 x3 x4 hz HM4 HB4
          go_wp2_with ((with_reducible refine gate_builtin (b := .append) (xs := #[.tmp 55, .tmp 57]) rfl ?_); at_builtin; refine Kd.N_append k30 (w0 := w) w.heap.size rfl (.tmp 55) (.tmp 57) 23 30 (.agg #[(.int .u8 0), (.int .i64 0), (.slice none 0 0), (.slice none 0 0), (.slice none 0 0)]) 88 rfl Try.underlying23 info30 rfl (by decide) (by omega) (.slice Ay4 Y4.length cy4) Y4 x [.int .u8 1, .int .i64 x.f1, .slice A2 x.f2.length c2, .slice A3 x.f3.length c3, .slice (some ⟨w4.heap.size + 1, 0, none⟩) 0 0] (fun j => j < w.heap.size ∨ okY4 j ∨ w5.heap.size ≤ j) (fun j => j < w.heap.size) rfl rfl HFK.out (okp_base HM5.out) (fun j hj => .inr (.inr hj)) (Kd.N_mono HM5.out.nY (fun j hj => .inr (.inl hj))) HB5.out HB5.out.size (by omega) ?_; intro v6 w6 hN1 hB1 hg1 hat1; obtain ⟨L6, hL6⟩ : ∃ L_, L_ = Y4 ++ [x] := ⟨_, rfl⟩; rw [← hL6] at hN1; have HL6 := Aside0.mk hL6; clear hL6; obtain ⟨A6, c6, rfl⟩ := Kd.N_slice hN1; have cy6 := HM5.out.gyc hg1; have fy6 := blk_frozen (HM5.out.gy hg1) 0; have HM6 := Aside0.mk (HM5.out.putY hg1 hg1.size (ok_base HM5.out) hN1); have HB6 := Aside0.mk (hB1.setCell (p := ⟨py, 0, none⟩) HM5.out.lo.2.2.1 (.slice A6 L6.length c6)); clear hN1 hB1 hg1 hat1)
          have hnew : MI w (w6.setCell ⟨py, 0, none⟩ (.slice A6 L6.length c6)) ⟨pg, w.heap.size, py, pq⟩ b (foldM b (l1.take (k + 1))) := by
            rw [HST2.out, ← HL6.out]
            exact ⟨HB6.out, _, _, _, _, HM6.out, QP.nil _ _ _ _⟩
          have HNEW := Aside0.mk hnew
          clear hnew
          go_roundw
          case rel => exact ⟨k + 1, by omega, by go_num, HNEW⟩
          case measure => simp [intOf]; omega
        · have hzb : ((x.f4.length : Int) == 0) = false := beq_eq_false_iff_ne.2 (by omega)
          go_upto_region 16 with (fail)
          have hblk : (w4.alloc (.cells #[.int .u8 1, .int .i64 x.f1, .slice A2 x.f2.length c2, .slice A3 x.f3.length c3, .slice A4 x.f4.length c4] 30)).heap[w4.heap.size]? = some (.cells #[.int .u8 1, .int .i64 x.f1, .slice A2 x.f2.length c2, .slice A3 x.f3.length c3, .slice A4 x.f4.length c4] 30 (0, 0)) := heap_alloc_new w4 _
          have hbw : Below w4.heap.size w4 (w4.alloc (.cells #[.int .u8 1, .int .i64 x.f1, .slice A2 x.f2.length c2, .slice A3 x.f3.length c3, .slice A4 x.f4.length c4] 30)) := below_alloc (Below.refl _ _) _
          generalize w4.alloc (.cells #[.int .u8 1, .int .i64 x.f1, .slice A2 x.f2.length c2, .slice A3 x.f3.length c3, .slice A4 x.f4.length c4] 30) = w5 at hblk hbw ⊢
          have HB5 := Aside0.mk (below_step HB4.out hbw)
          have HM5 := Aside0.mk (HM4.out.below hbw)
          have hfk : Kd.FK k30 w5 (fun j => j < w.heap.size) x [.int .u8 1, .int .i64 x.f1, .slice A2 x.f2.length c2, .slice A3 x.f3.length c3, .slice A4 x.f4.length c4] := by
            have h := k30_mkF w5 (fun j => j < w.heap.size) x l2 (Kd.F_below F2.out HB5.out) l3 (Kd.F_below F3.out HB5.out) l4 (Kd.F_below F4.out HB5.out)
            rw [HX1.out] at h
            exact h
          have HFK := Aside0.mk hfk
          have y0 : w5.cell? ⟨w4.heap.size, 0, none⟩ = some (.int .u8 1) := (blk_cell hblk 0).trans rfl
          have y1 : w5.cell? ⟨w4.heap.size, 1, none⟩ = some (.int .i64 x.f1) := (blk_cell hblk 1).trans rfl
          have y2 : w5.cell? ⟨w4.heap.size, 2, none⟩ = some (.slice A2 x.f2.length c2) := (blk_cell hblk 2).trans rfl
          have y3 : w5.cell? ⟨w4.heap.size, 3, none⟩ = some (.slice A3 x.f3.length c3) := (blk_cell hblk 3).trans rfl
          have y4 : w5.cell? ⟨w4.heap.size, 4, none⟩ = some (.slice A4 x.f4.length c4) := (blk_cell hblk 4).trans rfl
          have yy : w5.cell? ⟨py, 0, none⟩ = some (.slice Ay4 Y4.length cy4) := (blk_cell HM5.out.by_ 0).trans rfl
          have hlY := HFL.out
          clear hblk hbw hfk x0 x1 x2 x3 x4 hz HM4 HB4
          go_wp2_with ((with_reducible refine gate_builtin (b := .append) (xs := #[.tmp 55, .tmp 57]) rfl ?_); at_builtin; refine Kd.N_append k30 (w0 := w) w.heap.size rfl (.tmp 55) (.tmp 57) 23 30 (.agg #[(.int .u8 0), (.int .i64 0), (.slice none 0 0), (.slice none 0 0), (.slice none 0 0)]) 88 rfl Try.underlying23 info30 rfl (by decide) (by omega) (.slice Ay4 Y4.length cy4) Y4 x [.int .u8 1, .int .i64 x.f1, .slice A2 x.f2.length c2, .slice A3 x.f3.length c3, .slice A4 x.f4.length c4] (fun j => j < w.heap.size ∨ okY4 j ∨ w5.heap.size ≤ j) (fun j => j < w.heap.size) rfl rfl HFK.out (okp_base HM5.out) (fun j hj => .inr (.inr hj)) (Kd.N_mono HM5.out.nY (fun j hj => .inr (.inl hj))) HB5.out HB5.out.size (by omega) ?_; intro v6 w6 hN1 hB1 hg1 hat1; obtain ⟨L6, hL6⟩ : ∃ L_, L_ = Y4 ++ [x] := ⟨_, rfl⟩; rw [← hL6] at hN1; have HL6 := Aside0.mk hL6; clear hL6; obtain ⟨A6, c6, rfl⟩ := Kd.N_slice hN1; have cy6 := HM5.out.gyc hg1; have fy6 := blk_frozen (HM5.out.gy hg1) 0; have HM6 := Aside0.mk (HM5.out.putY hg1 hg1.size (ok_base HM5.out) hN1); have HB6 := Aside0.mk (hB1.setCell (p := ⟨py, 0, none⟩) HM5.out.lo.2.2.1 (.slice A6 L6.length c6)); clear hN1 hB1 hg1 hat1)
          have hnew : MI w (w6.setCell ⟨py, 0, none⟩ (.slice A6 L6.length c6)) ⟨pg, w.heap.size, py, pq⟩ b (foldM b (l1.take (k + 1))) := by
            rw [HST2.out, ← HL6.out]
            exact ⟨HB6.out, _, _, _, _, HM6.out, QP.nil _ _ _ _⟩
          have HNEW := Aside0.mk hnew
          clear hnew
          go_roundw
          case rel => exact ⟨k + 1, by omega, by go_num, HNEW⟩
          case measure => simp [intOf]; omega
      · by_cases h2 : x.f0 = 2
        · have hb1 : (x.f0 == 1) = false := beq_eq_false_iff_ne.2 h1
          have hb1' : (x.f0 == 2) = true := beq_iff_eq.2 h2
          rw [h2] at EIN
          go_wp2_with fail
          rw [h2] at e0
          have EW : Aside0 (∀ W', Below wr.heap.size wr W' → W'.cell? (ad.add (k * 5)) = some (.int .u8 2) ∧ W'.cell? ⟨(ad.add (k * 5)).block, (ad.add (k * 5)).off + 1, none⟩ = some (.int .i64 x.f1) ∧ W'.cell? ⟨(ad.add (k * 5)).block, (ad.add (k * 5)).off + 2, none⟩ = some (.slice A2 x.f2.length c2) ∧ W'.cell? ⟨(ad.add (k * 5)).block, (ad.add (k * 5)).off + 3, none⟩ = some (.slice A3 x.f3.length c3) ∧ W'.cell? ⟨(ad.add (k * 5)).block, (ad.add (k * 5)).off + 4, none⟩ = some (.slice A4 x.f4.length c4)) := ⟨fun W' hb => ⟨(hb.cell (World.block_lt_of_cell? _ _ e0)).trans e0, (hb.cell (World.block_lt_of_cell? _ _ e1)).trans e1, (hb.cell (World.block_lt_of_cell? _ _ e2)).trans e2, (hb.cell (World.block_lt_of_cell? _ _ e3)).trans e3, (hb.cell (World.block_lt_of_cell? _ _ e4)).trans e4⟩⟩
          refine start_ (n := 8) (S := fun w' => w'.cell? ⟨pq, 0, none⟩ = some (.slice Aq Q.length cq) ∧ w'.cell? (ad.add (k * 5)) = some (.int .u8 2) ∧ w'.cell? ⟨(ad.add (k * 5)).block, (ad.add (k * 5)).off + 1, none⟩ = some (.int .i64 x.f1) ∧ w'.cell? ⟨(ad.add (k * 5)).block, (ad.add (k * 5)).off + 2, none⟩ = some (.slice A2 x.f2.length c2) ∧ w'.cell? ⟨(ad.add (k * 5)).block, (ad.add (k * 5)).off + 3, none⟩ = some (.slice A3 x.f3.length c3) ∧ w'.cell? ⟨(ad.add (k * 5)).block, (ad.add (k * 5)).off + 4, none⟩ = some (.slice A4 x.f4.length c4)) (ds := [7]) #[false, false, false, false, false, false, false, false] (by kernel_rfl) rfl rfl ⟨(blk_cell (w := wr.drew) HM.out.bq 0).trans rfl, EW.out _ (below_drew (Below.refl wr.heap.size wr))⟩ (fun hHeld => ?_)
          have hb := below_drew (Below.refl wr.heap.size wr)
          generalize wr.drew = w3 at hb hHeld ⊢
          replace HM := Aside0.mk (HM.out.below hb)
          replace HQ := Aside0.mk (HQ.out.below hb)
          replace HB2 := Aside0.mk (below_step HB2.out hb)
          have HWB := Aside0.mk hb
          clear hb e0 e1 e2 e3 e4
          refine pure_ (i := 1) (N := some 62) (v := ?_) (a' := ?_) #[false, true, false, false, false, false, false, false] rfl rfl (any_of rfl (by kernel_rfl)) (fun _ _ _ h => h) (Or.inl ⟨by rfl, ?_⟩) ?_ ?_
          rotate_left
          · intro w'
            go_simp
            with_reducible rfl
          rotate_left
          · simp only [Act.put, List.setIfInBounds_toArray, List.set_cons_zero, List.set_cons_succ, i64_w, i32_w]
            rfl
          refine pure_ (i := 2) (N := some 63) (v := ?_) (a' := ?_) #[false, true, true, false, false, false, false, false] rfl rfl (any_of rfl (by kernel_rfl)) (fun _ _ _ h => h) (Or.inl ⟨by rfl, ?_⟩) ?_ ?_
          rotate_left
          · intro w'
            go_simp
            with_reducible rfl
          rotate_left
          · simp only [Act.put, List.setIfInBounds_toArray, List.set_cons_zero, List.set_cons_succ, i64_w, i32_w]
            rfl
          refine pure_ (i := 3) (N := some 64) (v := ?_) (a' := ?_) #[false, true, true, true, false, false, false, false] rfl rfl (any_of rfl (by kernel_rfl)) (fun _ _ _ h => h) (Or.inl ⟨by rfl, ?_⟩) ?_ ?_
          rotate_left
          · intro w'
            go_simp
            with_reducible rfl
          rotate_left
          · simp only [Act.put, List.setIfInBounds_toArray, List.set_cons_zero, List.set_cons_succ, i64_w, i32_w]
            rfl
          refine take_ (i := 0) (N := some 61) (v := ?_) (a' := ?_) #[true, true, true, true, false, false, false, false] rfl rfl (take_of rfl (by kernel_rfl)) (fun _ _ _ h => h) (Or.inl ⟨by rfl, ?_⟩) hHeld ?_ ?_
          rotate_left
          · rintro w' ⟨s0, s1, s2, s3, s4, s5⟩
            go_simp
            with_reducible rfl
          rotate_left
          · simp only [Act.put, List.setIfInBounds_toArray, List.set_cons_zero, List.set_cons_succ, i64_w, i32_w]
            rfl
          refine take_ (i := 4) (N := some 65) (v := ?_) (a' := ?_) #[true, true, true, true, true, false, false, false] rfl rfl (take_of rfl (by kernel_rfl)) (fun _ _ _ h => h) (Or.inl ⟨by rfl, ?_⟩) hHeld ?_ ?_
          rotate_left
          · rintro w' ⟨s0, s1, s2, s3, s4, s5⟩
            go_simp
            with_reducible rfl
          rotate_left
          · simp only [Act.put, List.setIfInBounds_toArray, List.set_cons_zero, List.set_cons_succ, i64_w, i32_w]
            rfl
          refine one_ (i := 5) (N := some 66) #[true, true, true, true, true, true, false, false] rfl rfl (one_of rfl (by kernel_rfl)) (by decide) (fun K hK => ?_)
          refine value_ (w1 := w3.alloc (.cells #[.int .u8 2, .int .i64 x.f1, .slice A2 x.f2.length c2, .slice A3 x.f3.length c3, .slice A4 x.f4.length c4] 30)) (v := .slice (some ⟨w3.heap.size, 0, none⟩) 1 1) (by rfl) rfl ?_ ?_
          · go_simp
            try rfl
          refine hK.out _ _ ⟨(blk_cell (blk_alloc HM.out.bq _) 0).trans rfl, EW.out _ (below_then HWB.out HWB.out.size (below_alloc (Below.refl w3.heap.size w3) _))⟩ (fun hHeld => ?_)
          clear hK K
          refine norm_ (a' := ?_) ?_ ?_
          rotate_left
          · show Act.put _ (some 66) _ = _
            simp only [Act.put, List.setIfInBounds_toArray, List.set_cons_zero, List.set_cons_succ, i64_w, i32_w]
            rfl
          refine one_ (i := 6) (N := some 67) #[true, true, true, true, true, true, true, false] rfl rfl (one_of rfl (by kernel_rfl)) (by decide) (fun K hK => ?_)
          refine Kd.N_append_step k30 (w0 := w) w.heap.size (by rfl) (.tmp 61) (.tmp 66) 23 30 (.agg #[(.int .u8 0), (.int .i64 0), (.slice none 0 0), (.slice none 0 0), (.slice none 0 0)]) 88 rfl Try.underlying23 info30 rfl (by decide) (by omega) (.slice Aq Q.length cq) Q x [.int .u8 2, .int .i64 x.f1, .slice A2 x.f2.length c2, .slice A3 x.f3.length c3, .slice A4 x.f4.length c4] (fun j => j < w.heap.size ∨ okQ j ∨ w3.heap.size ≤ j) (fun j => j < w.heap.size) rfl rfl ?aP ?aQ ?aF ?aO ?aB ?aS ?aL ?_
          (case aP => exact (by rw [← h2]; exact k30_mkF w3 (fun j => j < w.heap.size) x l2 (Kd.F_below F2.out HB2.out) l3 (Kd.F_below F3.out HB2.out) l4 (Kd.F_below F4.out HB2.out)))
          (case aQ => exact fun j hj => ⟨.inl hj, fun e_ => by have := Kd.N_base HQ.out.nQ j e_.symm; omega⟩)
          (case aF => exact fun j hj => .inr (.inr hj))
          (case aO => exact Kd.N_mono HQ.out.nQ (fun j hj => .inr (.inl hj)))
          (case aB => exact HB2.out)
          (case aS => exact HB2.out.size)
          (case aL => have := HLEN.out; omega)
          intro v5 w5 hN5 hB5 hg5 hat5
          obtain ⟨L5, hL5⟩ : ∃ L_, L_ = Q ++ [x] := ⟨_, rfl⟩
          rw [← hL5] at hN5
          have HL5 := Aside0.mk hL5
          clear hL5
          obtain ⟨A5, c5, rfl⟩ := Kd.N_slice hN5
          have AN := Aside0.mk hN5
          have AB := Aside0.mk hB5
          have AG := Aside0.mk hg5
          have hE5 : w5.cell? (ad.add (k * 5)) = some (.int .u8 2) ∧ w5.cell? ⟨(ad.add (k * 5)).block, (ad.add (k * 5)).off + 1, none⟩ = some (.int .i64 x.f1) ∧ w5.cell? ⟨(ad.add (k * 5)).block, (ad.add (k * 5)).off + 2, none⟩ = some (.slice A2 x.f2.length c2) ∧ w5.cell? ⟨(ad.add (k * 5)).block, (ad.add (k * 5)).off + 3, none⟩ = some (.slice A3 x.f3.length c3) ∧ w5.cell? ⟨(ad.add (k * 5)).block, (ad.add (k * 5)).off + 4, none⟩ = some (.slice A4 x.f4.length c4) := EIN.out w5 hB5
          clear hN5 hB5 hg5 hat5
          refine hK.out _ _ ⟨HQ.out.gqc HM.out AG.out, hE5⟩ (fun hHeld => ?_)
          clear hK K
          refine norm_ (a' := ?_) ?_ ?_
          rotate_left
          · show Act.put _ (some 67) _ = _
            simp only [Act.put, List.setIfInBounds_toArray, List.set_cons_zero, List.set_cons_succ, i64_w, i32_w]
            rfl
          refine last_ (i := 7) (N := none) #[true, true, true, true, true, true, true, true] rfl rfl (one_of rfl (by kernel_rfl)) (by decide) (fun K hK => ?_)
          have c0_ := HQ.out.gqc HM.out AG.out
          have f0_ := blk_frozen (HQ.out.gq HM.out AG.out) 0
          refine skip_ (w1 := w5.setCell ⟨pq, 0, none⟩ (.slice A5 L5.length c5)) (by rfl) rfl ?_ ?_
          · go_simp
            try rfl
          refine hK.out _ _ ?_
          clear hK K
          refine done_ (done_of rfl (by kernel_rfl)) ?_
          have hnew : MI w (w5.setCell ⟨pq, 0, none⟩ (.slice A5 L5.length c5)) ⟨pg, w.heap.size, py, pq⟩ b (foldM b (l1.take (k + 1))) := by
            rw [HST.out, stepM, if_neg h1, if_pos h2]
            show MI w _ _ b (Y, Q ++ [x], g)
            rw [← HL5.out]
            have h_ := HQ.out.putQ HM.out AG.out AG.out.size (ok' := fun j => j < w.heap.size ∨ okQ j ∨ w3.heap.size ≤ j) (fun j hj => hj) AN.out
            exact ⟨AB.out.setCell (p := ⟨pq, 0, none⟩) HM.out.lo.2.2.2 _, _, _, _, _, h_.1, h_.2⟩
          have HNEW := Aside0.mk hnew
          clear hnew h1 h2 c0_ f0_ hE5
          go_wp2_with fail
          go_roundw
          case rel => exact ⟨k + 1, by omega, by go_num, HNEW⟩
          case measure => simp [intOf]; omega
        · have hb1 : (x.f0 == 1) = false := beq_eq_false_iff_ne.2 h1
          have hb1' : (x.f0 == 2) = false := beq_eq_false_iff_ne.2 h2
          go_wp2_with fail
          refine start_ (n := 8) (S := fun w' => w'.cell? ⟨pg, 0, none⟩ = some (.int .i64 g) ∧ w'.cell? ⟨(ad.add (k * 5)).block, (ad.add (k * 5)).off + 1, none⟩ = some (.int .i64 x.f1)) (ds := [7]) #[false, false, false, false, false, false, false, false] (by kernel_rfl) rfl rfl ⟨(blk_cell (w := wr.drew) HM.out.bg 0).trans rfl, e1⟩ (fun hHeld => ?_)
          have hb := below_drew (Below.refl wr.heap.size wr)
          generalize wr.drew = w3 at hb hHeld ⊢
          replace HM := Aside0.mk (HM.out.below hb)
          replace HQ := Aside0.mk (HQ.out.below hb)
          replace HB2 := Aside0.mk (below_step HB2.out hb)
          clear hb e0 e1 e2 e3 e4
          refine pure_ (i := 1) (N := some 35) (v := ?_) (a' := ?_) #[false, true, false, false, false, false, false, false] rfl rfl (any_of rfl (by kernel_rfl)) (fun _ _ _ h => h) (Or.inl ⟨by rfl, ?_⟩) ?_ ?_
          rotate_left
          · intro w'
            go_simp
            with_reducible rfl
          rotate_left
          · simp only [Act.put, List.setIfInBounds_toArray, List.set_cons_zero, List.set_cons_succ, i64_w, i32_w]
            rfl
          refine pure_ (i := 2) (N := some 36) (v := ?_) (a' := ?_) #[false, true, true, false, false, false, false, false] rfl rfl (any_of rfl (by kernel_rfl)) (fun _ _ _ h => h) (Or.inl ⟨by rfl, ?_⟩) ?_ ?_
          rotate_left
          · intro w'
            go_simp
            with_reducible rfl
          rotate_left
          · simp only [Act.put, List.setIfInBounds_toArray, List.set_cons_zero, List.set_cons_succ, i64_w, i32_w]
            rfl
          refine pure_ (i := 3) (N := some 37) (v := ?_) (a' := ?_) #[false, true, true, true, false, false, false, false] rfl rfl (any_of rfl (by kernel_rfl)) (fun _ _ _ h => h) (Or.inl ⟨by rfl, ?_⟩) ?_ ?_
          rotate_left
          · intro w'
            go_simp
            with_reducible rfl
          rotate_left
          · simp only [Act.put, List.setIfInBounds_toArray, List.set_cons_zero, List.set_cons_succ, i64_w, i32_w]
            rfl
          refine pure_ (i := 4) (N := some 38) (v := ?_) (a' := ?_) #[false, true, true, true, true, false, false, false] rfl rfl (any_of rfl (by kernel_rfl)) (fun _ _ _ h => h) (Or.inl ⟨by rfl, ?_⟩) ?_ ?_
          rotate_left
          · intro w'
            go_simp
            with_reducible rfl
          rotate_left
          · simp only [Act.put, List.setIfInBounds_toArray, List.set_cons_zero, List.set_cons_succ, i64_w, i32_w]
            rfl
          refine take_ (i := 0) (N := some 34) (v := ?_) (a' := ?_) #[true, true, true, true, true, false, false, false] rfl rfl (take_of rfl (by kernel_rfl)) (fun _ _ _ h => h) (Or.inl ⟨by rfl, ?_⟩) hHeld ?_ ?_
          rotate_left
          · rintro w' ⟨s0, s1⟩
            go_simp
            with_reducible rfl
          rotate_left
          · simp only [Act.put, List.setIfInBounds_toArray, List.set_cons_zero, List.set_cons_succ, i64_w, i32_w]
            rfl
          refine take_ (i := 5) (N := some 39) (v := ?_) (a' := ?_) #[true, true, true, true, true, true, false, false] rfl rfl (take_of rfl (by kernel_rfl)) (fun _ _ _ h => h) (Or.inl ⟨by rfl, ?_⟩) hHeld ?_ ?_
          rotate_left
          · rintro w' ⟨s0, s1⟩
            go_simp
            with_reducible rfl
          rotate_left
          · simp only [Act.put, List.setIfInBounds_toArray, List.set_cons_zero, List.set_cons_succ, i64_w, i32_w]
            rfl
          refine pure_ (i := 6) (N := some 40) (v := ?_) (a' := ?_) #[true, true, true, true, true, true, true, false] rfl rfl (any_of rfl (by kernel_rfl)) (fun _ _ _ h => h) (Or.inl ⟨by rfl, ?_⟩) ?_ ?_
          rotate_left
          · intro w'
            go_simp
            with_reducible rfl
          rotate_left
          · simp only [Act.put, List.setIfInBounds_toArray, List.set_cons_zero, List.set_cons_succ, i64_w, i32_w]
            rfl
          refine last_ (i := 7) (N := none) #[true, true, true, true, true, true, true, true] rfl rfl (one_of rfl (by kernel_rfl)) (by decide) (fun K hK => ?_)
          have c0_ : w3.cell? ⟨pg, 0, none⟩ = some (.int .i64 g) := (blk_cell HM.out.bg 0).trans rfl
          have f0_ := blk_frozen HM.out.bg 0
          refine skip_ (w1 := w3.setCell ⟨pg, 0, none⟩ (.int .i64 (wrap64 (g + x.f1)))) (by rfl) rfl ?_ ?_
          · go_simp
            try rfl
          refine hK.out _ _ ?_
          clear hK K
          refine done_ (done_of rfl (by kernel_rfl)) ?_
          have hnew : MI w (w3.setCell ⟨pg, 0, none⟩ (.int .i64 (wrap64 (g + x.f1)))) ⟨pg, w.heap.size, py, pq⟩ b (foldM b (l1.take (k + 1))) := by
            rw [HST.out, stepM, if_neg h1, if_neg h2]
            exact ⟨HB2.out.setCell (p := ⟨pg, 0, none⟩) HM.out.lo.1 _, _, _, _, _, HM.out.putG _, HQ.out.putG HM.out _⟩
          have HNEW := Aside0.mk hnew
          clear hnew h1 h2
          go_wp2_with fail
          go_roundw
          case rel => exact ⟨k + 1, by omega, by go_num, HNEW⟩
          case measure => simp [intOf]; omega
    · obtain rfl : k = l1.length := by omega
      rw [List.take_length] at HI HLEN
      obtain ⟨hB1, vy, vq, okY, okQ, hM, hQ⟩ := HI.out
      have hL := HLEN.out
      go_wp2_with fail
      refine (flush_calls w wr w.heap.size ⟨pg, w.heap.size, py, pq⟩ b _ vy vq okY okQ _ _ hM hB1 hB1.size (by omega) (by omega) hQ).mono ?_
      rintro e w4 ⟨rfl, hF⟩
      obtain ⟨hB4, vy4, okY4, hM4⟩ := hF
      obtain ⟨Ay, cy, rfl⟩ := Kd.N_slice hM4.nY
      have c4 : w4.cell? ⟨py, 0, none⟩ = some (.slice Ay (yM b l1).length cy) := (blk_cell hM4.by_ 0).trans rfl
      have hY := Kd.N_reads' hM4.nY
      have HY : Aside0 (Kd.C k30 w4 Ay (yM b l1).length (yM b l1) ∧ (yM b l1).length ≤ cy) := ⟨hY.2.2, hY.2.1⟩
      have HB4 := Aside0.mk hB4
      clear hB1 hM hQ hL hB4 hM4 hY HI HLEN
      go_wp2_with fail
      refine (normal_Of.calls Ay cy (yM b l1) a w4 HY.out.1 HY.out.2 HA.out).mono ?_
      rintro e w5 ⟨va, rfl, hS, hb⟩
      obtain ⟨Aa, ca, rfl⟩ := Kd.S_slice hS
      have HSA := Aside0.mk hS
      have HB5 := Aside0.mk (below_step HB4.out hb)
      clear hS hb c4
      go_wp2_with fail
      refine (normal_Of.calls A1 c1 l1 d w5 (Kd.C_below HR.out HB5.out) hc1 HD.out).mono ?_
      rintro e w6 ⟨vd, rfl, hS, hb⟩
      obtain ⟨Ad, cd, rfl⟩ := Kd.S_slice hS
      have HSD := Aside0.mk hS
      have HCA := Aside0.mk (Kd.C_below (Kd.S_reads' HSA.out).2.2 hb)
      have hca := (Kd.S_reads' HSA.out).2.1
      have HB6 := Aside0.mk (below_step HB5.out hb)
      clear hS hb HSA
      go_wp2_with fail
      refine (ops_Same.calls Aa ca a Ad cd d r w6 HCA.out hca (Kd.S_reads' HSD.out).2.2 (Kd.S_reads' HSD.out).2.1 HS.out).mono ?_
      rintro e w7 ⟨rfl, hb⟩
      have HB7 := Aside0.mk (below_step HB6.out hb)
      clear hb
      rcases Bool.eq_false_or_eq_true r with hr | hr
      · have HRR := Aside0.mk hr
        rw [hr]
        clear hr
        go_wp2_with fail
        refine (known_in w7).mono ?_
        rintro e w8 ⟨rfl, hb⟩
        have HB8 := Aside0.mk (below_step HB7.out hb)
        clear hb
        go_wp2_with fail
        go_ret
        exact ⟨by rw [HRR.out]; rfl, HB8.out⟩
      · have HRR := Aside0.mk hr
        rw [hr]
        clear hr
        go_wp2_with fail
        go_ret
        exact ⟨by rw [HRR.out]; rfl, HB7.out⟩
end Go.Proofs.Ytmjeoknamoegpaa.P
