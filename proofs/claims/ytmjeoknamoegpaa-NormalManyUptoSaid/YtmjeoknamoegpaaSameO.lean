-- by hand: ops.Same (slices.EqualFunc with a function of its own)
import Derived.BigGuardPart
import Derived.Test.YtmjeoknamoegpaaEqs
namespace Go.Proofs.Ytmjeoknamoegpaa.P
open Go.RowKit Go.Proofs.YtmjeoknamoegpaaW.PrintWords Go.Proofs.YtmjeoknamoegpaaW.PrintLast Go.Proofs.YtmjeoknamoegpaaW.PrintMore
set_option linter.unusedVariables false
set_option linter.unusedSimpArgs false

/-- An op's rows, read. -/
structure OpC (w : World) (x : S30) (A2 : Option Addr) (c2 : Nat) (A3 : Option Addr) (c3 : Nat) (A4 : Option Addr) (c4 : Nat) : Prop where
  r2 : Kd.C (Kd.int .i32) w A2 x.f2.length x.f2
  l2 : x.f2.length ≤ c2
  r3 : Kd.C k40 w A3 x.f3.length x.f3
  l3 : x.f3.length ≤ c3
  r4 : Kd.C k42 w A4 x.f4.length x.f4
  l4 : x.f4.length ≤ c4
theorem OpC.below {w w' : World} {x : S30} {A2 : Option Addr} {c2 : Nat} {A3 : Option Addr} {c3 : Nat} {A4 : Option Addr} {c4 : Nat} (h : OpC w x A2 c2 A3 c3 A4 c4) (hb : Below w.heap.size w w') : OpC w' x A2 c2 A3 c3 A4 c4 :=
  ⟨Kd.C_below h.r2 hb, h.l2, Kd.C_below h.r3 hb, h.l3, Kd.C_below h.r4 hb, h.l4⟩
def opV (x : S30) (A2 : Option Addr) (c2 : Nat) (A3 : Option Addr) (c3 : Nat) (A4 : Option Addr) (c4 : Nat) : Value := .agg #[.int .u8 x.f0, .int .i64 x.f1, .slice A2 x.f2.length c2, .slice A3 x.f3.length c3, .slice A4 x.f4.length c4]
theorem eqO_of (x y : S30) : eqB (keyO x) (keyO y) = ((x.f0 == y.f0) && (x.f1 == y.f1) && eqB x.f2 y.f2 && eqB (keyA x.f3) (keyA y.f3) && eqB (keyC x.f4) (keyC y.f4)) := by
  rw [Bool.eq_iff_iff, eqB_true]
  simp only [keyO, Prod.mk.injEq, Bool.and_eq_true, beq_iff_eq, eqB_true, and_assoc]

set_option maxHeartbeats 2000000 in
set_option maxRecDepth 100000 in
theorem same1_eq (x y : S30) (a0 a1 : Int) (A2 : Option Addr) (c2 : Nat) (A3 : Option Addr) (c3 : Nat) (A4 : Option Addr) (c4 : Nat) (B2 : Option Addr) (d2 : Nat) (B3 : Option Addr) (d3 : Nat) (B4 : Option Addr) (d4 : Nat) (w : World)
    (hx : OpC w x A2 c2 A3 c3 A4 c4) (hy : OpC w y B2 d2 B3 d3 B4 d4) :
    Calls Try.prog 27 #[.agg #[.int .u8 a0, .int .i64 a1, .slice A2 x.f2.length c2, .slice A3 x.f3.length c3, .slice A4 x.f4.length c4], .agg #[.int .u8 a0, .int .i64 a1, .slice B2 y.f2.length d2, .slice B3 y.f3.length d3, .slice B4 y.f4.length d4]] w
      fun e w' => e = .returned (.bool (eqB x.f2 y.f2 && eqB (keyA x.f3) (keyA y.f3) && eqB (keyC x.f4) (keyC y.f4))) ∧ Below w.heap.size w w' := by
  have hb0 : Below w.heap.size w ((w.alloc (.cells #[.int .u8 a0, .int .i64 a1, .slice A2 x.f2.length c2, .slice A3 x.f3.length c3, .slice A4 x.f4.length c4] 30)).alloc (.cells #[.int .u8 a0, .int .i64 a1, .slice B2 y.f2.length d2, .slice B3 y.f3.length d3, .slice B4 y.f4.length d4] 30)) := below_alloc (below_alloc (Below.refl _ _) _) _
  have hx0 : ((w.alloc (.cells #[.int .u8 a0, .int .i64 a1, .slice A2 x.f2.length c2, .slice A3 x.f3.length c3, .slice A4 x.f4.length c4] 30)).alloc (.cells #[.int .u8 a0, .int .i64 a1, .slice B2 y.f2.length d2, .slice B3 y.f3.length d3, .slice B4 y.f4.length d4] 30)).heap[w.heap.size]? = some (.cells #[.int .u8 a0, .int .i64 a1, .slice A2 x.f2.length c2, .slice A3 x.f3.length c3, .slice A4 x.f4.length c4] 30 (0, 0)) :=
    ((below_alloc (Below.refl (w.alloc (.cells #[.int .u8 a0, .int .i64 a1, .slice A2 x.f2.length c2, .slice A3 x.f3.length c3, .slice A4 x.f4.length c4] 30)).heap.size _) _).block _ (by simp)).trans (heap_alloc_new w _)
  have hy0 : ((w.alloc (.cells #[.int .u8 a0, .int .i64 a1, .slice A2 x.f2.length c2, .slice A3 x.f3.length c3, .slice A4 x.f4.length c4] 30)).alloc (.cells #[.int .u8 a0, .int .i64 a1, .slice B2 y.f2.length d2, .slice B3 y.f3.length d3, .slice B4 y.f4.length d4] 30)).heap[w.heap.size + 1]? = some (.cells #[.int .u8 a0, .int .i64 a1, .slice B2 y.f2.length d2, .slice B3 y.f3.length d3, .slice B4 y.f4.length d4] 30 (0, 0)) := by
    have h := heap_alloc_new (w.alloc (.cells #[.int .u8 a0, .int .i64 a1, .slice A2 x.f2.length c2, .slice A3 x.f3.length c3, .slice A4 x.f4.length c4] 30)) (.cells #[.int .u8 a0, .int .i64 a1, .slice B2 y.f2.length d2, .slice B3 y.f3.length d3, .slice B4 y.f4.length d4] 30)
    simpa using h
  have HX := Aside0.mk (hx.below hb0)
  have HY := Aside0.mk (hy.below hb0)
  have HB := Aside0.mk hb0
  have HX0 := Aside0.mk hx0
  have HY0 := Aside0.mk hy0
  clear hx hy hb0 hx0 hy0
  have h28 := Aside0.mk (equalI_calls A2 c2 x.f2 B2 d2 y.f2 _ HX.out.r2 HX.out.l2 HY.out.r2 HY.out.l2)
  obtain ⟨b2, hb2⟩ : ∃ b, eqB x.f2 y.f2 = b := ⟨_, rfl⟩
  obtain ⟨b3, hb3⟩ : ∃ b, eqB (keyA x.f3) (keyA y.f3) = b := ⟨_, rfl⟩
  obtain ⟨b4, hb4⟩ : ∃ b, eqB (keyC x.f4) (keyC y.f4) = b := ⟨_, rfl⟩
  rw [hb2] at h28
  rw [hb2, hb3, hb4]
  have HB3 := Aside0.mk hb3
  have HB4 := Aside0.mk hb4
  clear hb2 hb3 hb4
  go_enter Try.func27, Try.ntmps27
  go_wp2_with fail
  go_at_call 28
  refine h28.out.mono ?_
  rintro e w1 ⟨rfl, hd⟩
  have hb1 := hd.below
  clear h28
  replace HX := Aside0.mk (HX.out.below hb1)
  replace HY := Aside0.mk (HY.out.below hb1)
  replace HB := Aside0.mk (below_step HB.out hb1)
  have hx1 := (hb1.block w.heap.size (blk_lt HX0.out)).trans HX0.out
  have hy1 := (hb1.block (w.heap.size + 1) (blk_lt HY0.out)).trans HY0.out
  clear HX0 HY0 hd hb1
  have h3 : w1.cell? ⟨w.heap.size, 3, none⟩ = some (.slice A3 x.f3.length c3) := by simp [World.cell?, hx1]
  have h4 : w1.cell? ⟨w.heap.size, 4, none⟩ = some (.slice A4 x.f4.length c4) := by simp [World.cell?, hx1]
  have k3 : w1.cell? ⟨w.heap.size + 1, 3, none⟩ = some (.slice B3 y.f3.length d3) := by simp [World.cell?, hy1]
  have k4 : w1.cell? ⟨w.heap.size + 1, 4, none⟩ = some (.slice B4 y.f4.length d4) := by simp [World.cell?, hy1]
  have HX0 := Aside0.mk hx1
  have HY0 := Aside0.mk hy1
  clear hx1 hy1
  cases b2 with
  | false =>
    go_wp2_with fail
    go_ret
    exact ⟨rfl, HB.out⟩
  | true =>
    have h29 := Aside0.mk (equalA_calls A3 c3 x.f3 B3 d3 y.f3 _ HX.out.r3 HX.out.l3 HY.out.r3 HY.out.l3)
    rw [HB3.out] at h29
    go_wp2_with fail
    go_at_call 29
    refine h29.out.mono ?_
    rintro e w2 ⟨rfl, hb1⟩
    clear h29 h3 h4 k3 k4
    replace HX := Aside0.mk (HX.out.below hb1)
    replace HY := Aside0.mk (HY.out.below hb1)
    replace HB := Aside0.mk (below_step HB.out hb1)
    have hx1 := (hb1.block w.heap.size (blk_lt HX0.out)).trans HX0.out
    have hy1 := (hb1.block (w.heap.size + 1) (blk_lt HY0.out)).trans HY0.out
    clear HX0 HY0 hb1
    have h4 : w2.cell? ⟨w.heap.size, 4, none⟩ = some (.slice A4 x.f4.length c4) := by simp [World.cell?, hx1]
    have k4 : w2.cell? ⟨w.heap.size + 1, 4, none⟩ = some (.slice B4 y.f4.length d4) := by simp [World.cell?, hy1]
    clear hx1 hy1
    cases b3 with
    | false =>
      go_wp2_with fail
      go_ret
      exact ⟨rfl, HB.out⟩
    | true =>
      have h30 := Aside0.mk (equalC_calls A4 c4 x.f4 B4 d4 y.f4 _ HX.out.r4 HX.out.l4 HY.out.r4 HY.out.l4)
      rw [HB4.out] at h30
      go_wp2_with fail
      go_at_call 30
      refine h30.out.mono ?_
      rintro e w3 ⟨rfl, hb1⟩
      clear h30 h4 k4
      replace HB := Aside0.mk (below_step HB.out hb1)
      clear hb1
      cases b4
      all_goals
        go_wp2_with fail
        go_ret
        exact ⟨rfl, HB.out⟩
set_option maxHeartbeats 1000000 in
set_option maxRecDepth 100000 in
theorem same1_calls (x y : S30) (A2 : Option Addr) (c2 : Nat) (A3 : Option Addr) (c3 : Nat) (A4 : Option Addr) (c4 : Nat) (B2 : Option Addr) (d2 : Nat) (B3 : Option Addr) (d3 : Nat) (B4 : Option Addr) (d4 : Nat) (w : World)
    (hx : OpC w x A2 c2 A3 c3 A4 c4) (hy : OpC w y B2 d2 B3 d3 B4 d4) :
    Calls Try.prog 27 #[.agg #[.int .u8 x.f0, .int .i64 x.f1, .slice A2 x.f2.length c2, .slice A3 x.f3.length c3, .slice A4 x.f4.length c4], .agg #[.int .u8 y.f0, .int .i64 y.f1, .slice B2 y.f2.length d2, .slice B3 y.f3.length d3, .slice B4 y.f4.length d4]] w
      fun e w' => e = .returned (.bool (eqB (keyO x) (keyO y))) ∧ Below w.heap.size w w' := by
  rw [eqO_of]
  by_cases h0 : x.f0 = y.f0
  · by_cases h1 : x.f1 = y.f1
    · rw [beq_iff_eq.2 h0, beq_iff_eq.2 h1, h0, h1]
      exact same1_eq x y y.f0 y.f1 A2 c2 A3 c3 A4 c4 B2 d2 B3 d3 B4 d4 w hx hy
    · have h0b := beq_iff_eq.2 h0
      have h1b := beq_eq_false_iff_ne.2 h1
      rw [h1b]
      clear hx hy
      go_enter Try.func27, Try.ntmps27
      go_wp2_with fail
      go_ret
      exact ⟨by simp, below_alloc (below_alloc (Below.refl _ _) _) _⟩
  · have h0b := beq_eq_false_iff_ne.2 h0
    rw [h0b]
    clear hx hy
    go_enter Try.func27, Try.ntmps27
    go_wp2_with fail
    go_ret
    exact ⟨by simp, below_alloc (below_alloc (Below.refl _ _) _) _⟩

set_option maxHeartbeats 4000000 in
set_option maxRecDepth 100000 in
theorem equalFunc_ne (A0 : Option Addr) (c0 : Nat) (l0 : List S30) (A1 : Option Addr) (c1 : Nat) (l1 : List S30) (w : World) (hl : l0.length ≠ l1.length) :
    Calls Try.prog 26 #[.slice A0 l0.length c0, .slice A1 l1.length c1, .func (.func 27) #[] #[]] w fun e w' => e = .returned (.bool (eqB (l0.map keyO) (l1.map keyO))) ∧ Below w.heap.size w w' := by
  have hb : ((l0.length : Int) == (l1.length : Int)) = false := beq_eq_false_iff_ne.2 (by omega)
  have he : eqB (l0.map keyO) (l1.map keyO) = false := eqB_false.2 (fun h => hl (by simpa using congrArg List.length h))
  rw [he]
  go_enter Try.func26, Try.ntmps26
  go_wp2_with fail
  go_ret
  exact ⟨rfl, Below.refl _ _⟩
set_option maxHeartbeats 4000000 in
set_option maxRecDepth 100000 in
theorem equalFunc_eq (A0 : Option Addr) (c0 : Nat) (l0 : List S30) (A1 : Option Addr) (c1 : Nat) (l1 : List S30) (w : World) (hr0 : Kd.C k30 w A0 l0.length l0) (hc0 : l0.length ≤ c0) (hr1 : Kd.C k30 w A1 l1.length l1) (hc1 : l1.length ≤ c1) (hl : l0.length = l1.length) (hs : l0.length ≤ 3000000) :
    Calls Try.prog 26 #[.slice A0 l0.length c0, .slice A1 l1.length c1, .func (.func 27) #[] #[]] w fun e w' => e = .returned (.bool (eqB (l0.map keyO) (l1.map keyO))) ∧ Below w.heap.size w w' := by
  have hb : ((l0.length : Int) != (l1.length : Int)) = false := by rw [hl]; simp
  have HR0 := Aside0.mk hr0
  have HR1 := Aside0.mk hr1
  have HL := Aside0.mk hl
  have HSZ := Aside0.mk hs
  clear hr0 hr1 hl hs
  go_enter Try.func26, Try.ntmps26
  go_wp2_with fail
  go_loopw [17] (fun i wr => ∃ k : Nat, k ≤ l0.length ∧ i = .int .i64 k ∧ Aside0 (Below w.heap.size w wr ∧ eqB (l0.map keyO) (l1.map keyO) = eqB ((l0.drop k).map keyO) ((l1.drop k).map keyO))) (fun i _ => l0.length - (intOf i).toNat)
  case atStart => exact ⟨0, Nat.zero_le _, rfl, ⟨Below.refl _ _, rfl⟩⟩
  case round =>
    obtain ⟨k, hk, rfl, HI⟩ := hrel
    by_cases hlt : k < l0.length
    · have hlt1 : k < l1.length := by have := HL.out; omega
      have hB := HI.out.1
      obtain ⟨ad, A2, c2, A3, c3, A4, c4, eA, e0, e1, e2, e3, e4, l2, f2, l3, f3, l4, f4⟩ := at_T30 (Kd.C_below HR0.out hB) (k : Int) (by omega) (by omega)
      obtain ⟨bd, B2, d2, B3, d3, B4, d4, eB, g0, g1, g2, g3, g4, m2, h2, m3, h3, m4, h4⟩ := at_T30 (Kd.C_below HR1.out hB) (k : Int) (by omega) (by omega)
      rw [rd30_get l0 k hlt] at e0 e1 e2 e3 e4 l2 f2 l3 f3 l4 f4
      rw [rd30_get l1 k hlt1] at g0 g1 g2 g3 g4 m2 h2 m3 h3 m4 h4
      simp only [Int.toNat_natCast] at e0 e1 e2 e3 e4 g0 g1 g2 g3 g4
      have q1 : (k : Int) < (l0.length : Int) := by omega
      have q2 : (k : Int) < (l1.length : Int) := by omega
      have q0 : (0 : Int) ≤ (k : Int) := Int.natCast_nonneg k
      subst eA
      subst eB
      obtain ⟨x, hx⟩ : ∃ x, l0[k] = x := ⟨_, rfl⟩
      obtain ⟨y, hy⟩ : ∃ y, l1[k] = y := ⟨_, rfl⟩
      rw [hx] at e0 e1 e2 e3 e4 l2 f2 l3 f3 l4 f4
      rw [hy] at g0 g1 g2 g3 g4 m2 h2 m3 h3 m4 h4
      have k0 := ((below_alloc (Below.refl wr.heap.size wr) (.cells #[.int .u8 x.f0, .int .i64 x.f1, .slice A2 x.f2.length c2, .slice A3 x.f3.length c3, .slice A4 x.f4.length c4] 30)).cell (World.block_lt_of_cell? _ _ g0)).trans g0
      have k1 := ((below_alloc (Below.refl wr.heap.size wr) (.cells #[.int .u8 x.f0, .int .i64 x.f1, .slice A2 x.f2.length c2, .slice A3 x.f3.length c3, .slice A4 x.f4.length c4] 30)).cell (World.block_lt_of_cell? _ _ g1)).trans g1
      have k2 := ((below_alloc (Below.refl wr.heap.size wr) (.cells #[.int .u8 x.f0, .int .i64 x.f1, .slice A2 x.f2.length c2, .slice A3 x.f3.length c3, .slice A4 x.f4.length c4] 30)).cell (World.block_lt_of_cell? _ _ g2)).trans g2
      have k3 := ((below_alloc (Below.refl wr.heap.size wr) (.cells #[.int .u8 x.f0, .int .i64 x.f1, .slice A2 x.f2.length c2, .slice A3 x.f3.length c3, .slice A4 x.f4.length c4] 30)).cell (World.block_lt_of_cell? _ _ g3)).trans g3
      have k4 := ((below_alloc (Below.refl wr.heap.size wr) (.cells #[.int .u8 x.f0, .int .i64 x.f1, .slice A2 x.f2.length c2, .slice A3 x.f3.length c3, .slice A4 x.f4.length c4] 30)).cell (World.block_lt_of_cell? _ _ g4)).trans g4
      have HX := Aside0.mk (OpC.mk f2 l2 f3 l3 f4 l4)
      have HY := Aside0.mk (OpC.mk h2 m2 h3 m3 h4 m4)
      have HE := Aside0.mk hx
      have HF := Aside0.mk hy
      clear hB f2 l2 f3 l3 f4 l4 h2 m2 h3 m3 h4 m4 hx hy
      go_wp2_with fail
      have hb2 := below_alloc (below_alloc (Below.refl wr.heap.size wr) (.cells #[.int .u8 x.f0, .int .i64 x.f1, .slice A2 x.f2.length c2, .slice A3 x.f3.length c3, .slice A4 x.f4.length c4] 30)) (.cells #[.int .u8 y.f0, .int .i64 y.f1, .slice B2 y.f2.length d2, .slice B3 y.f3.length d3, .slice B4 y.f4.length d4] 30)
      generalize (wr.alloc (.cells #[.int .u8 x.f0, .int .i64 x.f1, .slice A2 x.f2.length c2, .slice A3 x.f3.length c3, .slice A4 x.f4.length c4] 30)).alloc (.cells #[.int .u8 y.f0, .int .i64 y.f1, .slice B2 y.f2.length d2, .slice B3 y.f3.length d3, .slice B4 y.f4.length d4] 30) = w2 at hb2 ⊢
      refine (same1_calls x y A2 c2 A3 c3 A4 c4 B2 d2 B3 d3 B4 d4 w2 (HX.out.below hb2) (HY.out.below hb2)).mono ?_
      rintro e w3 ⟨rfl, hb3⟩
      have HBB := Aside0.mk (below_step HI.out.1 (below_step hb2 hb3))
      obtain ⟨b, hbb⟩ : ∃ b, eqB (keyO x) (keyO y) = b := ⟨_, rfl⟩
      rw [hbb]
      cases b with
      | false =>
        have hans : eqB (l0.map keyO) (l1.map keyO) = false := by
          rw [HI.out.2]
          refine eqB_false.2 (fun h => ?_)
          have h2 := ((map_drop_eq keyO l0 l1 k hlt hlt1).1 h).1
          rw [HE.out, HF.out] at h2
          exact eqB_false.1 hbb h2
        have HANS := Aside0.mk hans
        clear hbb hans hb2 hb3 HI e0 e1 e2 e3 e4 g0 g1 g2 g3 g4 k0 k1 k2 k3 k4
        go_wp2_with fail
        go_ret
        exact ⟨by rw [HANS.out]; rfl, HBB.out⟩
      | true =>
        have hans : eqB (l0.map keyO) (l1.map keyO) = eqB ((l0.drop (k + 1)).map keyO) ((l1.drop (k + 1)).map keyO) := by
          rw [HI.out.2, Bool.eq_iff_iff, eqB_true, eqB_true, map_drop_eq keyO l0 l1 k hlt hlt1, HE.out, HF.out]
          exact ⟨fun h => h.2, fun h => ⟨eqB_true.1 hbb, h⟩⟩
        have HANS := Aside0.mk hans
        clear hbb hans hb2 hb3 HI e0 e1 e2 e3 e4 g0 g1 g2 g3 g4 k0 k1 k2 k3 k4
        have hsz := HSZ.out
        have HNEW := Aside0.mk (And.intro HBB.out HANS.out)
        go_wp2_with fail
        go_roundw
        case rel => exact ⟨k + 1, by omega, by go_num, HNEW⟩
        case measure => simp [intOf]; omega
    · obtain rfl : k = l0.length := by omega
      go_wp2_with fail
      go_ret
      refine ⟨?_, HI.out.1⟩
      have h := HI.out.2
      rw [List.drop_length, HL.out, List.drop_length] at h
      rw [h]
      rfl

def ops_Same.f (l0 : List (S30)) (l1 : List (S30)) : Option (Bool) := if l0.length ≤ 3000000 then some (eqB (l0.map keyO) (l1.map keyO)) else none
set_option maxHeartbeats 4000000 in
set_option maxRecDepth 100000 in
theorem ops_Same.calls (A0 : Option Addr) (c0 : Nat) (l0 : List (S30)) (A1 : Option Addr) (c1 : Nat) (l1 : List (S30)) (r : Bool) (w : World) (hr0 : Kd.C k30 w A0 l0.length l0) (hc0 : l0.length ≤ c0) (hr1 : Kd.C k30 w A1 l1.length l1) (hc1 : l1.length ≤ c1) (h : ops_Same.f l0 l1 = some r) :
    Calls Try.prog 11 #[.slice A0 l0.length c0, .slice A1 l1.length c1] w fun e w' => e = .returned (.bool r) ∧ Below w.heap.size w w' := by
  have hE : Aside0 (Calls Try.prog 26 #[.slice A0 l0.length c0, .slice A1 l1.length c1, .func (.func 27) #[] #[]] w fun e w' => e = .returned (.bool r) ∧ Below w.heap.size w w') := by
    unfold ops_Same.f at h
    split at h
    · rename_i hs
      obtain rfl := Option.some.inj h
      by_cases hl : l0.length = l1.length
      · exact ⟨equalFunc_eq A0 c0 l0 A1 c1 l1 w hr0 hc0 hr1 hc1 hl hs⟩
      · exact ⟨equalFunc_ne A0 c0 l0 A1 c1 l1 w hl⟩
    · cases h
  clear hr0 hr1 h
  go_enter Try.func11, Try.ntmps11
  go_wp2_with fail
  go_at_call 26
  refine hE.out.mono ?_
  rintro e w3 ⟨rfl, hb⟩
  have HBB := Aside0.mk hb
  clear hE hb
  go_wp2_with fail
  go_ret
  exact ⟨rfl, HBB.out⟩
end Go.Proofs.Ytmjeoknamoegpaa.P
