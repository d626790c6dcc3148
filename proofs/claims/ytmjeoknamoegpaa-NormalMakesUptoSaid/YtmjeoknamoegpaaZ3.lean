-- several texts in one: Px15 Px1 Px2 Px3
import Derived.Test.YtmjeoknamoegpaaZ2
namespace Go.Proofs.Ytmjeoknamoegpaa.P
open Go.RowKit Go.Proofs.YtmjeoknamoegpaaW.PrintWords Go.Proofs.YtmjeoknamoegpaaW.PrintLast Go.Proofs.YtmjeoknamoegpaaW.PrintMore
attribute [local go_sem] max2_int min2_int max_two min_two max_three min_three max_four min_four   -- for this text's walks alone
set_option linter.unusedVariables false
set_option linter.unusedSimpArgs false
/-! ### rubricref15_Copy: function 15 -/
def rubricref15_Copy.l0 : Nat → List (S30) → List (S30) → Int → Option ((List (S30)))
 | 0, _, _, _ => none
 | k + 1, x0, x3, x4 => if x4 < (x0.length : Int) then (if 0 ≤ x4 then ((some (([] : List Int) : List Int)).bind fun y334 => (if y334.length + ((rd_T30 x0 x4).f2).length < 35184372088832 then ((some (([] : List (S40)) : List (S40))).bind fun y340 => (if y340.length + ((rd_T30 x0 x4).f3).length < 2932031007402 then ((some (([] : List (S42)) : List (S42))).bind fun y346 => (if y346.length + ((rd_T30 x0 x4).f4).length < 2513169434916 then (if x3.length < 1599289640401 then (rubricref15_Copy.l0 k x0 (x3 ++ [(⟨(rd_T30 x0 x4).f0, (rd_T30 x0 x4).f1, (y334 ++ ((rd_T30 x0 x4).f2)), (y340 ++ ((rd_T30 x0 x4).f3)), (y346 ++ ((rd_T30 x0 x4).f4))⟩ : S30)]) (wrap64 (x4 + 1))) else (none)) else (none))) else (none))) else (none))) else (none)) else (some x3)
def rubricref15_Copy.f (k : Nat) (l0 : List (S30)) : Option ((List (S30))) := rubricref15_Copy.l0 k l0 ([] : List (S30)) 0
def rubricref15_Copy.T6 : Bool × List (List Nat × List Nat) := (true, [([], []), ([], []), ([1], [1]), ([], []), ([3], [3]), ([], []), ([], []), ([6], [6]), ([5, 7], [5, 7]), ([], []), ([], []), ([10], [10]), ([9, 11, 8], [9, 11]), ([], []), ([], []), ([14], [14]), ([13, 15, 12], [13, 15]), ([2, 4, 8, 12, 16], [2, 4, 8, 12, 16]), ([17], [17]), ([0, 18, 16], [0, 18]), ([19, 19, 0, 1, 2, 3, 4, 5, 6, 7, 8, 9, 10, 11, 12, 13, 14, 15, 16, 17, 18, 19], [0, 19])])
def rubricref15_Copy.B6 : List Nat := [0, 0, 2, 0, 8, 0, 0, 64, 224, 0, 0, 1024, 4064, 0, 0, 16384, 65504, 131070, 262142, 524287, 1048575]
theorem rubricref15_Copy.tab6 : rtab .any (opsOf Try.f15 6) = rubricref15_Copy.T6 := by kernel_rfl
theorem rubricref15_Copy.bits6 : waitsOk rubricref15_Copy.T6.2 rubricref15_Copy.B6 = true := by kernel_rfl
set_option maxHeartbeats 8000000 in
set_option maxRecDepth 100000 in
theorem rubricref15_Copy.calls (k : Nat) (A0 : Option Addr) (c0 : Nat) (l0 : List (S30)) (r : List (S30)) (w : World) (hr0 : Kd.C k30 w A0 l0.length l0) (hc0 : l0.length ≤ c0) (h : rubricref15_Copy.f k l0 = some r) :
  Calls Try.prog 15 #[.slice A0 l0.length c0] w fun e w' => ∃ v0_ : Value, e = .returned (v0_) ∧ Kd.S k30 30 w' w.heap.size (fun _ => True) v0_ r ∧ Below w.heap.size w w' := by
 have hu30 := Try.underlying30
 have HR0 := Aside0.mk hr0
 have HC0 := Aside0.mk hc0
 clear hr0 hc0
 have HB := Aside0.mk (Below.refl w.heap.size w)
 have H : (rubricref15_Copy.l0 k l0 ([] : List (S30)) 0) = some r := h
 clear h
 have H' := Aside0.mk H
 clear H
 go_enter Try.func15, Try.ntmps15
 go_wp2
 go_loopg [3, 4] k (fun kq v3 v4 w' => ∃ (x3_1 : List (S30)) (x4_1 : Int), v4 = .int .i64 x4_1 ∧ Aside0 (rubricref15_Copy.l0 kq l0 x3_1 x4_1 = some r) ∧ Aside0 (kq ≤ k) ∧ Aside0 (Kd.S k30 30 w' w.heap.size (fun _ => True) v3 x3_1) ∧ Aside0 (Below w.heap.size w w'))
 case atStart => exact ⟨(([] : List (S30))), (0), (by first | rfl | (simp; done) | (simp [*]; done)), H', ⟨Nat.le_refl _⟩, ⟨by first | exact Kd.S_nil _ _ _ _ _ | exact Kd.N_nil _ _ _ _ _ | exact Kd.V_nil _ _ _ _ _ | exact Kd.Q_nil _ _ _ _ _ | exact Kd.R_nil _ _ _ _ _⟩, ⟨by repeat (first | (with_reducible first | exact HB.out | apply below_alloc | apply pw_below_drewN | apply below_drew1) | exact HB.out | exact Below.refl _ _)⟩⟩
 case round =>
  clear H'
  try clear c1
  obtain ⟨x3_1, x4_1, rfl, HA, HK1, HO_3, HB⟩ := hrel
  cases gk with
  | zero => exact absurd HA.out (by simp [rubricref15_Copy.l0])
  | succ k1 =>
   have H := HA.out
   clear HA
   simp only [rubricref15_Copy.l0] at H
   by_cases c2 : x4_1 < (l0.length : Int)
   ·rw [if_pos c2] at H
    have c2b0 : decide (x4_1 < (l0.length : Int)) = true := decide_eq_true c2
    clear c2
    by_cases c3 : 0 ≤ x4_1
    ·rw [if_pos c3] at H
     have c3b0 : decide (0 ≤ x4_1) = true := decide_eq_true c3
     clear c3
     obtain ⟨y334, hy334⟩ : ∃ y_ : List Int, y_ = (([] : List Int)) := ⟨_, rfl⟩
     replace H : (if y334.length + ((rd_T30 l0 x4_1).f2).length < 35184372088832 then ((some (([] : List (S40)) : List (S40))).bind fun y340 => (if y340.length + ((rd_T30 l0 x4_1).f3).length < 2932031007402 then ((some (([] : List (S42)) : List (S42))).bind fun y346 => (if y346.length + ((rd_T30 l0 x4_1).f4).length < 2513169434916 then (if x3_1.length < 1599289640401 then (rubricref15_Copy.l0 k1 l0 (x3_1 ++ [(⟨(rd_T30 l0 x4_1).f0, (rd_T30 l0 x4_1).f1, (y334 ++ ((rd_T30 l0 x4_1).f2)), (y340 ++ ((rd_T30 l0 x4_1).f3)), (y346 ++ ((rd_T30 l0 x4_1).f4))⟩ : S30)]) (wrap64 (x4_1 + 1))) else (none)) else (none))) else (none))) else (none)) = some r := by first | (rw [hy334]; with_reducible exact H) | (have H2_ := (Option.bind_some _ _).symm.trans H; rw [hy334]; with_reducible exact H2_) | (have H2_ := (Option.bind_some _ _).symm.trans H; with_reducible exact H2_) | with_reducible exact H | (rw [hy334]; exact H) | exact H
     have Ny334 := Aside0.mk hy334
     clear hy334
     by_cases c4 : y334.length + ((rd_T30 l0 x4_1).f2).length < 35184372088832
     ·rw [if_pos c4] at H
      have LMc4 := Aside0.mk c4
      clear c4
      obtain ⟨y337, hy337⟩ : ∃ y_ : List Int, y_ = (y334 ++ ((rd_T30 l0 x4_1).f2)) := ⟨_, rfl⟩
      replace H : ((some (([] : List (S40)) : List (S40))).bind fun y340 => (if y340.length + ((rd_T30 l0 x4_1).f3).length < 2932031007402 then ((some (([] : List (S42)) : List (S42))).bind fun y346 => (if y346.length + ((rd_T30 l0 x4_1).f4).length < 2513169434916 then (if x3_1.length < 1599289640401 then (rubricref15_Copy.l0 k1 l0 (x3_1 ++ [(⟨(rd_T30 l0 x4_1).f0, (rd_T30 l0 x4_1).f1, y337, (y340 ++ ((rd_T30 l0 x4_1).f3)), (y346 ++ ((rd_T30 l0 x4_1).f4))⟩ : S30)]) (wrap64 (x4_1 + 1))) else (none)) else (none))) else (none))) = some r := by first | (rw [hy337]; with_reducible exact H) | (have H2_ := (Option.bind_some _ _).symm.trans H; rw [hy337]; with_reducible exact H2_) | (have H2_ := (Option.bind_some _ _).symm.trans H; with_reducible exact H2_) | with_reducible exact H | (rw [hy337]; exact H) | exact H
      have Ny337 := Aside0.mk hy337
      clear hy337
      obtain ⟨y340, hy340⟩ : ∃ y_ : List (S40), y_ = (([] : List (S40))) := ⟨_, rfl⟩
      replace H : (if y340.length + ((rd_T30 l0 x4_1).f3).length < 2932031007402 then ((some (([] : List (S42)) : List (S42))).bind fun y346 => (if y346.length + ((rd_T30 l0 x4_1).f4).length < 2513169434916 then (if x3_1.length < 1599289640401 then (rubricref15_Copy.l0 k1 l0 (x3_1 ++ [(⟨(rd_T30 l0 x4_1).f0, (rd_T30 l0 x4_1).f1, y337, (y340 ++ ((rd_T30 l0 x4_1).f3)), (y346 ++ ((rd_T30 l0 x4_1).f4))⟩ : S30)]) (wrap64 (x4_1 + 1))) else (none)) else (none))) else (none)) = some r := by first | (rw [hy340]; with_reducible exact H) | (have H2_ := (Option.bind_some _ _).symm.trans H; rw [hy340]; with_reducible exact H2_) | (have H2_ := (Option.bind_some _ _).symm.trans H; with_reducible exact H2_) | with_reducible exact H | (rw [hy340]; exact H) | exact H
      have Ny340 := Aside0.mk hy340
      clear hy340
      by_cases c5 : y340.length + ((rd_T30 l0 x4_1).f3).length < 2932031007402
      ·rw [if_pos c5] at H
       have LMc5 := Aside0.mk c5
       clear c5
       obtain ⟨y343, hy343⟩ : ∃ y_ : List (S40), y_ = (y340 ++ ((rd_T30 l0 x4_1).f3)) := ⟨_, rfl⟩
       replace H : ((some (([] : List (S42)) : List (S42))).bind fun y346 => (if y346.length + ((rd_T30 l0 x4_1).f4).length < 2513169434916 then (if x3_1.length < 1599289640401 then (rubricref15_Copy.l0 k1 l0 (x3_1 ++ [(⟨(rd_T30 l0 x4_1).f0, (rd_T30 l0 x4_1).f1, y337, y343, (y346 ++ ((rd_T30 l0 x4_1).f4))⟩ : S30)]) (wrap64 (x4_1 + 1))) else (none)) else (none))) = some r := by first | (rw [hy343]; with_reducible exact H) | (have H2_ := (Option.bind_some _ _).symm.trans H; rw [hy343]; with_reducible exact H2_) | (have H2_ := (Option.bind_some _ _).symm.trans H; with_reducible exact H2_) | with_reducible exact H | (rw [hy343]; exact H) | exact H
       have Ny343 := Aside0.mk hy343
       clear hy343
       obtain ⟨y346, hy346⟩ : ∃ y_ : List (S42), y_ = (([] : List (S42))) := ⟨_, rfl⟩
       replace H : (if y346.length + ((rd_T30 l0 x4_1).f4).length < 2513169434916 then (if x3_1.length < 1599289640401 then (rubricref15_Copy.l0 k1 l0 (x3_1 ++ [(⟨(rd_T30 l0 x4_1).f0, (rd_T30 l0 x4_1).f1, y337, y343, (y346 ++ ((rd_T30 l0 x4_1).f4))⟩ : S30)]) (wrap64 (x4_1 + 1))) else (none)) else (none)) = some r := by first | (rw [hy346]; with_reducible exact H) | (have H2_ := (Option.bind_some _ _).symm.trans H; rw [hy346]; with_reducible exact H2_) | (have H2_ := (Option.bind_some _ _).symm.trans H; with_reducible exact H2_) | with_reducible exact H | (rw [hy346]; exact H) | exact H
       have Ny346 := Aside0.mk hy346
       clear hy346
       by_cases c6 : y346.length + ((rd_T30 l0 x4_1).f4).length < 2513169434916
       ·rw [if_pos c6] at H
        have LMc6 := Aside0.mk c6
        clear c6
        obtain ⟨y349, hy349⟩ : ∃ y_ : List (S42), y_ = (y346 ++ ((rd_T30 l0 x4_1).f4)) := ⟨_, rfl⟩
        replace H : (if x3_1.length < 1599289640401 then (rubricref15_Copy.l0 k1 l0 (x3_1 ++ [(⟨(rd_T30 l0 x4_1).f0, (rd_T30 l0 x4_1).f1, y337, y343, y349⟩ : S30)]) (wrap64 (x4_1 + 1))) else (none)) = some r := by first | (rw [hy349]; with_reducible exact H) | (have H2_ := (Option.bind_some _ _).symm.trans H; rw [hy349]; with_reducible exact H2_) | (have H2_ := (Option.bind_some _ _).symm.trans H; with_reducible exact H2_) | with_reducible exact H | (rw [hy349]; exact H) | exact H
        have Ny349 := Aside0.mk hy349
        clear hy349
        by_cases c7 : x3_1.length < 1599289640401
        ·rw [if_pos c7] at H
         have LMc7 := Aside0.mk c7
         clear c7
         obtain ⟨y352, hy352⟩ : ∃ y_ : List (S30), y_ = (x3_1 ++ [(⟨(rd_T30 l0 x4_1).f0, (rd_T30 l0 x4_1).f1, y337, y343, y349⟩ : S30)]) := ⟨_, rfl⟩
         replace H : (rubricref15_Copy.l0 k1 l0 y352 (wrap64 (x4_1 + 1))) = some r := by first | (rw [hy352]; with_reducible exact H) | (have H2_ := (Option.bind_some _ _).symm.trans H; rw [hy352]; with_reducible exact H2_) | (have H2_ := (Option.bind_some _ _).symm.trans H; with_reducible exact H2_) | with_reducible exact H | (rw [hy352]; exact H) | exact H
         have Ny352 := Aside0.mk hy352
         clear hy352
         have H' := Aside0.mk H
         clear H
         have p332 : 0 ≤ (x4_1 : Int) := of_decide_eq_true (by first | (with_reducible assumption) | assumption)
         have q332 : x4_1 < (l0.length : Int) := of_decide_eq_true (by first | (with_reducible assumption) | assumption)
         obtain ⟨ad332, A332_2, c332_2, A332_3, c332_3, A332_4, c332_4, e332, hx332_0, hx332_1, hx332_2, hx332_3, hx332_4, hl332_2, hi332_2, hl332_3, hi332_3, hl332_4, hi332_4⟩ := at_T30 HR0.out x4_1 p332 q332
         cases e332
         replace hx332_0 := (HB.out.cell (World.block_lt_of_cell? w _ hx332_0)).trans hx332_0
         replace hx332_1 := (HB.out.cell (World.block_lt_of_cell? w _ hx332_1)).trans hx332_1
         replace hx332_2 := (HB.out.cell (World.block_lt_of_cell? w _ hx332_2)).trans hx332_2
         replace hx332_3 := (HB.out.cell (World.block_lt_of_cell? w _ hx332_3)).trans hx332_3
         replace hx332_4 := (HB.out.cell (World.block_lt_of_cell? w _ hx332_4)).trans hx332_4
         have HR332_2 := Aside0.mk hi332_2
         have HC332_2 := Aside0.mk hl332_2
         clear hi332_2 hl332_2
         have HR332_3 := Aside0.mk hi332_3
         have HC332_3 := Aside0.mk hl332_3
         clear hi332_3 hl332_3
         have HR332_4 := Aside0.mk hi332_4
         have HC332_4 := Aside0.mk hl332_4
         clear hi332_4 hl332_4
         replace p332 := eq_true p332
         replace q332 := eq_true q332
         try go_wp2_with (first | ((with_reducible refine gate_dst (N := 5) rfl ?_); refine box_event ?hg (N := 5) ?hd (cs := #[.int .u8 0, .int .i64 0, .slice none 0 0, .slice none 0 0, .slice none 0 0]) (t := 30) ?hr ?_; (case hd => rfl); (case hg => rfl); (case hr => first | (go_simp; done) | (go_simp; rfl)); intro gb333 hg w8 hbox hb; have n0_ := Aside0.mk (Kd.S_below (Kd.S_elderB (by (with_reducible repeat (first | apply Kd.S_alloc | apply Kd.S_drewN | apply Kd.S_drew)); exact HO_3.out) gb333 (Nat.le_of_eq hg.symm)) hb); have n1_ := Aside0.mk (below_step (by repeat (first | (with_reducible first | exact HB.out | apply below_alloc | apply pw_below_drewN | apply below_drew1) | exact HB.out | exact Below.refl _ _)) hb); have n2_ := Aside0.mk (hbox); have n3_ := Aside0.mk ((by rw [hg]; exact (below_size (by repeat (first | (with_reducible first | exact HB.out | apply below_alloc | apply pw_below_drewN | apply below_drew1) | exact HB.out | exact Below.refl _ _))) : w.heap.size ≤ gb333)); have n4_ := Aside0.mk ((by rw [hg]; exact (below_size (by repeat (first | (with_reducible first | exact HB.out | apply below_alloc | apply pw_below_drewN | apply below_drew1) | exact HB.out | exact Below.refl _ _))) : w.heap.size ≤ gb333)); clear HO_3; clear HB; have HO_3 := n0_; have HB := n1_; have BK333 := n2_; have GW333 := n3_; have GE333 := n4_; clear n0_ n1_ n2_ n3_ n4_; clear hb hbox hg; have hcz9_0 : w8.cell? ⟨gb333, 0, none⟩ = some (.int .u8 0) := (blk_cell BK333.out 0).trans rfl; have hcz9_1 : w8.cell? ⟨gb333, 1, none⟩ = some (.int .i64 0) := (blk_cell BK333.out 1).trans rfl; have hcz9_2 : w8.cell? ⟨gb333, 2, none⟩ = some (.slice none 0 0) := (blk_cell BK333.out 2).trans rfl; have hcz9_3 : w8.cell? ⟨gb333, 3, none⟩ = some (.slice none 0 0) := (blk_cell BK333.out 3).trans rfl; have hcz9_4 : w8.cell? ⟨gb333, 4, none⟩ = some (.slice none 0 0) := (blk_cell BK333.out 4).trans rfl; have hfz9_0 := blk_frozen BK333.out 0; have hfz9_1 := blk_frozen BK333.out 1; have hfz9_2 := blk_frozen BK333.out 2; have hfz9_3 := blk_frozen BK333.out 3; have hfz9_4 := blk_frozen BK333.out 4; obtain ⟨Ao10, co10, eo10⟩ := Kd.S_slice HO_3.out; subst eo10))
         have n0_ : Aside0 (Kd.S k30 30 (((((w8.setCell ⟨gb333, 0, none⟩ (.int .u8 ((rd_T30 l0 x4_1).f0))).setCell ⟨gb333, 1, none⟩ (.int .i64 ((rd_T30 l0 x4_1).f1))).setCell ⟨gb333, 2, none⟩ (.slice A332_2 ((rd_T30 l0 x4_1).f2).length c332_2)).setCell ⟨gb333, 3, none⟩ (.slice A332_3 ((rd_T30 l0 x4_1).f3).length c332_3)).setCell ⟨gb333, 4, none⟩ (.slice A332_4 ((rd_T30 l0 x4_1).f4).length c332_4)) w.heap.size (fun k_ => k_ ≠ gb333) (.slice Ao10 x3_1.length co10) x3_1) := ⟨by (with_reducible repeat (first | apply Kd.S_alloc | apply Kd.S_drewN | apply Kd.S_drew)); exact Kd.S_mono (Kd.S_far (p := ⟨gb333, 4, none⟩) (Kd.S_far (p := ⟨gb333, 3, none⟩) (Kd.S_far (p := ⟨gb333, 2, none⟩) (Kd.S_far (p := ⟨gb333, 1, none⟩) (Kd.S_far (p := ⟨gb333, 0, none⟩) (Kd.S_mono HO_3.out (fun k_ hk => (⟨hk, hk.2⟩ : _ ∧ k_ ≠ gb333))) (fun _ hk => hk.2) (.int .u8 ((rd_T30 l0 x4_1).f0))) (fun _ hk => hk.2) (.int .i64 ((rd_T30 l0 x4_1).f1))) (fun _ hk => hk.2) (.slice A332_2 ((rd_T30 l0 x4_1).f2).length c332_2)) (fun _ hk => hk.2) (.slice A332_3 ((rd_T30 l0 x4_1).f3).length c332_3)) (fun _ hk => hk.2) (.slice A332_4 ((rd_T30 l0 x4_1).f4).length c332_4)) (fun _ hk => hk.1.2)⟩
         have n1_ : Aside0 ((((((w8.setCell ⟨gb333, 0, none⟩ (.int .u8 ((rd_T30 l0 x4_1).f0))).setCell ⟨gb333, 1, none⟩ (.int .i64 ((rd_T30 l0 x4_1).f1))).setCell ⟨gb333, 2, none⟩ (.slice A332_2 ((rd_T30 l0 x4_1).f2).length c332_2)).setCell ⟨gb333, 3, none⟩ (.slice A332_3 ((rd_T30 l0 x4_1).f3).length c332_3)).setCell ⟨gb333, 4, none⟩ (.slice A332_4 ((rd_T30 l0 x4_1).f4).length c332_4)).heap[gb333]? = some (.cells #[.int .u8 ((rd_T30 l0 x4_1).f0), .int .i64 ((rd_T30 l0 x4_1).f1), .slice A332_2 ((rd_T30 l0 x4_1).f2).length c332_2, .slice A332_3 ((rd_T30 l0 x4_1).f3).length c332_3, .slice A332_4 ((rd_T30 l0 x4_1).f4).length c332_4] 30 (0, 0))) := ⟨by (with_reducible repeat (first | refine blk_drewN ?_ _ | refine blk_drew ?_ | refine blk_alloc ?_ _)); refine blk_put (cs := #[.int .u8 ((rd_T30 l0 x4_1).f0), .int .i64 ((rd_T30 l0 x4_1).f1), .slice A332_2 ((rd_T30 l0 x4_1).f2).length c332_2, .slice A332_3 ((rd_T30 l0 x4_1).f3).length c332_3, .slice none 0 0]) ?_ 4 _ rfl; (with_reducible repeat (first | refine blk_drewN ?_ _ | refine blk_drew ?_ | refine blk_alloc ?_ _)); refine blk_put (cs := #[.int .u8 ((rd_T30 l0 x4_1).f0), .int .i64 ((rd_T30 l0 x4_1).f1), .slice A332_2 ((rd_T30 l0 x4_1).f2).length c332_2, .slice none 0 0, .slice none 0 0]) ?_ 3 _ rfl; (with_reducible repeat (first | refine blk_drewN ?_ _ | refine blk_drew ?_ | refine blk_alloc ?_ _)); refine blk_put (cs := #[.int .u8 ((rd_T30 l0 x4_1).f0), .int .i64 ((rd_T30 l0 x4_1).f1), .slice none 0 0, .slice none 0 0, .slice none 0 0]) ?_ 2 _ rfl; (with_reducible repeat (first | refine blk_drewN ?_ _ | refine blk_drew ?_ | refine blk_alloc ?_ _)); refine blk_put (cs := #[.int .u8 ((rd_T30 l0 x4_1).f0), .int .i64 0, .slice none 0 0, .slice none 0 0, .slice none 0 0]) ?_ 1 _ rfl; (with_reducible repeat (first | refine blk_drewN ?_ _ | refine blk_drew ?_ | refine blk_alloc ?_ _)); refine blk_put (cs := #[.int .u8 0, .int .i64 0, .slice none 0 0, .slice none 0 0, .slice none 0 0]) ?_ 0 _ rfl; (with_reducible repeat (first | refine blk_drewN ?_ _ | refine blk_drew ?_ | refine blk_alloc ?_ _)); exact BK333.out⟩
         have n2_ : Aside0 (Below w.heap.size w (((((w8.setCell ⟨gb333, 0, none⟩ (.int .u8 ((rd_T30 l0 x4_1).f0))).setCell ⟨gb333, 1, none⟩ (.int .i64 ((rd_T30 l0 x4_1).f1))).setCell ⟨gb333, 2, none⟩ (.slice A332_2 ((rd_T30 l0 x4_1).f2).length c332_2)).setCell ⟨gb333, 3, none⟩ (.slice A332_3 ((rd_T30 l0 x4_1).f3).length c332_3)).setCell ⟨gb333, 4, none⟩ (.slice A332_4 ((rd_T30 l0 x4_1).f4).length c332_4))) := ⟨by repeat (first | (with_reducible first | exact HB.out | apply below_alloc | apply pw_below_drewN | apply below_drew1 | refine below_set ?_ GE333.out) | exact HB.out)⟩
         (try clear HO_3)
         (try clear BK333)
         (try clear HB)
         generalize (((((w8.setCell ⟨gb333, 0, none⟩ (.int .u8 ((rd_T30 l0 x4_1).f0))).setCell ⟨gb333, 1, none⟩ (.int .i64 ((rd_T30 l0 x4_1).f1))).setCell ⟨gb333, 2, none⟩ (.slice A332_2 ((rd_T30 l0 x4_1).f2).length c332_2)).setCell ⟨gb333, 3, none⟩ (.slice A332_3 ((rd_T30 l0 x4_1).f3).length c332_3)).setCell ⟨gb333, 4, none⟩ (.slice A332_4 ((rd_T30 l0 x4_1).f4).length c332_4)) = w11 at n0_ n1_ n2_ ⊢
         have HO_3 := n0_
         have BK333 := n1_
         have HB := n2_
         clear n0_ n1_ n2_
         have n0_ := Aside0.mk (Kd.S_drew HO_3.out)
         have n1_ := Aside0.mk (blk_drew BK333.out)
         have n2_ := Aside0.mk (below_drew1 HB.out)
         clear HO_3
         clear BK333
         clear HB
         have HO_3 := n0_
         have BK333 := n1_
         have HB := n2_
         clear n0_ n1_ n2_
         refine start_ (n := 21) (S := fun w' => w'.cell? ⟨gb333, 0, none⟩ = some (.int .u8 ((rd_T30 l0 x4_1).f0)) ∧ w'.cell? ⟨gb333, 1, none⟩ = some (.int .i64 ((rd_T30 l0 x4_1).f1)) ∧ w'.cell? ⟨gb333, 2, none⟩ = some (.slice A332_2 ((rd_T30 l0 x4_1).f2).length c332_2) ∧ w'.cell? ⟨gb333, 3, none⟩ = some (.slice A332_3 ((rd_T30 l0 x4_1).f3).length c332_3) ∧ w'.cell? ⟨gb333, 4, none⟩ = some (.slice A332_4 ((rd_T30 l0 x4_1).f4).length c332_4)) (ds := []) #[false, false, false, false, false, false, false, false, false, false, false, false, false, false, false, false, false, false, false, false, false] (by kernel_rfl) rfl rfl ⟨(blk_cell BK333.out 0).trans rfl, (blk_cell BK333.out 1).trans rfl, (blk_cell BK333.out 2).trans rfl, (blk_cell BK333.out 3).trans rfl, (blk_cell BK333.out 4).trans rfl⟩ (fun hHeld => ?_); refine with_tabW rubricref15_Copy.tab6 rubricref15_Copy.bits6 (fun HT_ HW_ => ?_)
         generalize w11.drew = w12 at HO_3 BK333 HB hHeld ⊢
         refine pure_ (i := 0) (N := some 16) (v := ?_) (a' := ?_) #[true, false, false, false, false, false, false, false, false, false, false, false, false, false, false, false, false, false, false, false, false] rfl rfl (any_of HT_.out (by kernel_rfl)) (fun _ _ _ h => h) (Or.inl ⟨by rfl, ?_⟩) ?_ ?_
         rotate_left
         ·intro w'
          go_simp
          with_reducible rfl
         rotate_left
         ·simp only [Act.put, List.setIfInBounds_toArray, List.set_cons_zero, List.set_cons_succ, i64_w, i32_w]
          rfl
         refine pure_ (i := 1) (N := some 17) (v := ?_) (a' := ?_) #[true, true, false, false, false, false, false, false, false, false, false, false, false, false, false, false, false, false, false, false, false] rfl rfl (any_of HT_.out (by kernel_rfl)) (fun _ _ _ h => h) (Or.inl ⟨by rfl, ?_⟩) ?_ ?_
         rotate_left
         ·intro w'
          go_simp
          with_reducible rfl
         rotate_left
         ·simp only [Act.put, List.setIfInBounds_toArray, List.set_cons_zero, List.set_cons_succ, i64_w, i32_w]
          rfl
         refine pure_ (i := 3) (N := some 19) (v := ?_) (a' := ?_) #[true, true, false, true, false, false, false, false, false, false, false, false, false, false, false, false, false, false, false, false, false] rfl rfl (any_of HT_.out (by kernel_rfl)) (fun _ _ _ h => h) (Or.inl ⟨by rfl, ?_⟩) ?_ ?_
         rotate_left
         ·intro w'
          go_simp
          with_reducible rfl
         rotate_left
         ·simp only [Act.put, List.setIfInBounds_toArray, List.set_cons_zero, List.set_cons_succ, i64_w, i32_w]
          rfl
         refine pure_ (i := 6) (N := some 22) (v := ?_) (a' := ?_) #[true, true, false, true, false, false, true, false, false, false, false, false, false, false, false, false, false, false, false, false, false] rfl rfl (any_of HT_.out (by kernel_rfl)) (fun _ _ _ h => h) (Or.inl ⟨by rfl, ?_⟩) ?_ ?_
         rotate_left
         ·intro w'
          go_simp
          with_reducible rfl
         rotate_left
         ·simp only [Act.put, List.setIfInBounds_toArray, List.set_cons_zero, List.set_cons_succ, i64_w, i32_w]
          rfl
         refine pure_ (i := 10) (N := some 26) (v := ?_) (a' := ?_) #[true, true, false, true, false, false, true, false, false, false, true, false, false, false, false, false, false, false, false, false, false] rfl rfl (any_of HT_.out (by kernel_rfl)) (fun _ _ _ h => h) (Or.inl ⟨by rfl, ?_⟩) ?_ ?_
         rotate_left
         ·intro w'
          go_simp
          with_reducible rfl
         rotate_left
         ·simp only [Act.put, List.setIfInBounds_toArray, List.set_cons_zero, List.set_cons_succ, i64_w, i32_w]
          rfl
         refine pure_ (i := 14) (N := some 30) (v := ?_) (a' := ?_) #[true, true, false, true, false, false, true, false, false, false, true, false, false, false, true, false, false, false, false, false, false] rfl rfl (any_of HT_.out (by kernel_rfl)) (fun _ _ _ h => h) (Or.inl ⟨by rfl, ?_⟩) ?_ ?_
         rotate_left
         ·intro w'
          go_simp
          with_reducible rfl
         rotate_left
         ·simp only [Act.put, List.setIfInBounds_toArray, List.set_cons_zero, List.set_cons_succ, i64_w, i32_w]
          rfl
         refine take_ (i := 2) (N := some 18) (v := ?_) (a' := ?_) #[true, true, true, true, false, false, true, false, false, false, true, false, false, false, true, false, false, false, false, false, false] rfl rfl (take_ofW HT_.out HW_.out (by kernel_rfl)) (fun _ _ _ h => h) (Or.inl ⟨by rfl, ?_⟩) hHeld ?_ ?_
         rotate_left
         ·rintro w' ⟨s0, s1, s2, s3, s4⟩
          go_simp
          with_reducible rfl
         rotate_left
         ·simp only [Act.put, List.setIfInBounds_toArray, List.set_cons_zero, List.set_cons_succ, i64_w, i32_w]
          rfl
         refine take_ (i := 4) (N := some 20) (v := ?_) (a' := ?_) #[true, true, true, true, true, false, true, false, false, false, true, false, false, false, true, false, false, false, false, false, false] rfl rfl (take_ofW HT_.out HW_.out (by kernel_rfl)) (fun _ _ _ h => h) (Or.inl ⟨by rfl, ?_⟩) hHeld ?_ ?_
         rotate_left
         ·rintro w' ⟨s0, s1, s2, s3, s4⟩
          go_simp
          with_reducible rfl
         rotate_left
         ·simp only [Act.put, List.setIfInBounds_toArray, List.set_cons_zero, List.set_cons_succ, i64_w, i32_w]
          rfl
         refine take_ (i := 7) (N := some 23) (v := ?_) (a' := ?_) #[true, true, true, true, true, false, true, true, false, false, true, false, false, false, true, false, false, false, false, false, false] rfl rfl (take_ofW HT_.out HW_.out (by kernel_rfl)) (fun _ _ _ h => h) (Or.inl ⟨by rfl, ?_⟩) hHeld ?_ ?_
         rotate_left
         ·rintro w' ⟨s0, s1, s2, s3, s4⟩
          go_simp
          with_reducible rfl
         rotate_left
         ·simp only [Act.put, List.setIfInBounds_toArray, List.set_cons_zero, List.set_cons_succ, i64_w, i32_w]
          rfl
         refine take_ (i := 11) (N := some 27) (v := ?_) (a' := ?_) #[true, true, true, true, true, false, true, true, false, false, true, true, false, false, true, false, false, false, false, false, false] rfl rfl (take_ofW HT_.out HW_.out (by kernel_rfl)) (fun _ _ _ h => h) (Or.inl ⟨by rfl, ?_⟩) hHeld ?_ ?_
         rotate_left
         ·rintro w' ⟨s0, s1, s2, s3, s4⟩
          go_simp
          with_reducible rfl
         rotate_left
         ·simp only [Act.put, List.setIfInBounds_toArray, List.set_cons_zero, List.set_cons_succ, i64_w, i32_w]
          rfl
         refine take_ (i := 15) (N := some 31) (v := ?_) (a' := ?_) #[true, true, true, true, true, false, true, true, false, false, true, true, false, false, true, true, false, false, false, false, false] rfl rfl (take_ofW HT_.out HW_.out (by kernel_rfl)) (fun _ _ _ h => h) (Or.inl ⟨by rfl, ?_⟩) hHeld ?_ ?_
         rotate_left
         ·rintro w' ⟨s0, s1, s2, s3, s4⟩
          go_simp
          with_reducible rfl
         rotate_left
         ·simp only [Act.put, List.setIfInBounds_toArray, List.set_cons_zero, List.set_cons_succ, i64_w, i32_w]
          rfl
         refine join_ (σ := Value × Value × Value × Value × Value) 5 #[true, true, true, true, true, true, true, true, true, true, true, true, true, true, true, true, false, false, false, false, false] (fun s_ => [(21, s_.1), (24, s_.2.1), (25, s_.2.2.1), (28, s_.2.2.2.1), (29, s_.2.2.2.2)]) (fun s_ w' => (w'.cell? ⟨gb333, 0, none⟩ = some (.int .u8 ((rd_T30 l0 x4_1).f0)) ∧ w'.cell? ⟨gb333, 1, none⟩ = some (.int .i64 ((rd_T30 l0 x4_1).f1)) ∧ w'.cell? ⟨gb333, 2, none⟩ = some (.slice A332_2 ((rd_T30 l0 x4_1).f2).length c332_2) ∧ w'.cell? ⟨gb333, 3, none⟩ = some (.slice A332_3 ((rd_T30 l0 x4_1).f3).length c332_3) ∧ w'.cell? ⟨gb333, 4, none⟩ = some (.slice A332_4 ((rd_T30 l0 x4_1).f4).length c332_4)) ∧ (Kd.R (Kd.int .i32) 21 w' w.heap.size (fun _ => True) s_.2.1 y337) ∧ (Kd.R k40 40 w' w.heap.size (fun _ => True) s_.2.2.2.1 y343) ∧ (Kd.R k42 42 w' w.heap.size (fun _ => True) s_.2.2.2.2 y346) ∧ (Kd.S k30 30 w' w.heap.size (fun k_ => some k_ ≠ (s_.2.1 : Value).ownBlock ∧ some k_ ≠ (s_.2.2.2.1 : Value).ownBlock ∧ some k_ ≠ (s_.2.2.2.2 : Value).ownBlock ∧ k_ ≠ gb333) (.slice Ao10 x3_1.length co10) x3_1) ∧ (w'.heap[gb333]? = some (.cells #[.int .u8 ((rd_T30 l0 x4_1).f0), .int .i64 ((rd_T30 l0 x4_1).f1), .slice A332_2 ((rd_T30 l0 x4_1).f2).length c332_2, .slice A332_3 ((rd_T30 l0 x4_1).f3).length c332_3, .slice A332_4 ((rd_T30 l0 x4_1).f4).length c332_4] 30 (0, 0))) ∧ (Below w.heap.size w w')) ?_ ?_
         rotate_left
         ·intro hJ5_8_9_12_13
          refine join_ (σ := Value × Value × Value × Value) 6 #[true, true, true, true, true, true, true, true, true, true, true, true, true, false, true, true, false, false, false, false, false] (fun s_ => [(21, s_.1), (24, s_.2.1), (25, s_.2.2.1), (28, s_.2.2.2)]) (fun s_ w' => (w'.cell? ⟨gb333, 0, none⟩ = some (.int .u8 ((rd_T30 l0 x4_1).f0)) ∧ w'.cell? ⟨gb333, 1, none⟩ = some (.int .i64 ((rd_T30 l0 x4_1).f1)) ∧ w'.cell? ⟨gb333, 2, none⟩ = some (.slice A332_2 ((rd_T30 l0 x4_1).f2).length c332_2) ∧ w'.cell? ⟨gb333, 3, none⟩ = some (.slice A332_3 ((rd_T30 l0 x4_1).f3).length c332_3) ∧ w'.cell? ⟨gb333, 4, none⟩ = some (.slice A332_4 ((rd_T30 l0 x4_1).f4).length c332_4)) ∧ (Kd.R (Kd.int .i32) 21 w' w.heap.size (fun _ => True) s_.2.1 y337) ∧ (Kd.R k40 40 w' w.heap.size (fun _ => True) s_.2.2.2 y343) ∧ (Kd.S k30 30 w' w.heap.size (fun k_ => some k_ ≠ (s_.2.1 : Value).ownBlock ∧ some k_ ≠ (s_.2.2.2 : Value).ownBlock ∧ k_ ≠ gb333) (.slice Ao10 x3_1.length co10) x3_1) ∧ (w'.heap[gb333]? = some (.cells #[.int .u8 ((rd_T30 l0 x4_1).f0), .int .i64 ((rd_T30 l0 x4_1).f1), .slice A332_2 ((rd_T30 l0 x4_1).f2).length c332_2, .slice A332_3 ((rd_T30 l0 x4_1).f3).length c332_3, .slice A332_4 ((rd_T30 l0 x4_1).f4).length c332_4] 30 (0, 0))) ∧ (Below w.heap.size w w')) ?_ ?_
          rotate_left
          ·intro hJ5_8_9_12
           refine join_ (σ := Value × Value × Value × Value) 6 #[true, true, true, true, true, true, true, true, true, true, true, true, false, true, true, true, false, false, false, false, false] (fun s_ => [(21, s_.1), (24, s_.2.1), (25, s_.2.2.1), (29, s_.2.2.2)]) (fun s_ w' => (w'.cell? ⟨gb333, 0, none⟩ = some (.int .u8 ((rd_T30 l0 x4_1).f0)) ∧ w'.cell? ⟨gb333, 1, none⟩ = some (.int .i64 ((rd_T30 l0 x4_1).f1)) ∧ w'.cell? ⟨gb333, 2, none⟩ = some (.slice A332_2 ((rd_T30 l0 x4_1).f2).length c332_2) ∧ w'.cell? ⟨gb333, 3, none⟩ = some (.slice A332_3 ((rd_T30 l0 x4_1).f3).length c332_3) ∧ w'.cell? ⟨gb333, 4, none⟩ = some (.slice A332_4 ((rd_T30 l0 x4_1).f4).length c332_4)) ∧ (Kd.R (Kd.int .i32) 21 w' w.heap.size (fun _ => True) s_.2.1 y337) ∧ (Kd.R k40 40 w' w.heap.size (fun _ => True) s_.2.2.1 y340) ∧ (Kd.R k42 42 w' w.heap.size (fun _ => True) s_.2.2.2 y346) ∧ (Kd.S k30 30 w' w.heap.size (fun k_ => some k_ ≠ (s_.2.1 : Value).ownBlock ∧ some k_ ≠ (s_.2.2.1 : Value).ownBlock ∧ some k_ ≠ (s_.2.2.2 : Value).ownBlock ∧ k_ ≠ gb333) (.slice Ao10 x3_1.length co10) x3_1) ∧ (w'.heap[gb333]? = some (.cells #[.int .u8 ((rd_T30 l0 x4_1).f0), .int .i64 ((rd_T30 l0 x4_1).f1), .slice A332_2 ((rd_T30 l0 x4_1).f2).length c332_2, .slice A332_3 ((rd_T30 l0 x4_1).f3).length c332_3, .slice A332_4 ((rd_T30 l0 x4_1).f4).length c332_4] 30 (0, 0))) ∧ (Below w.heap.size w w')) ?_ ?_
           rotate_left
           ·intro hJ5_8_9_13
            refine join_ (σ := Value × Value × Value) 7 #[true, true, true, true, true, true, true, true, true, true, true, true, false, false, true, true, false, false, false, false, false] (fun s_ => [(21, s_.1), (24, s_.2.1), (25, s_.2.2)]) (fun s_ w' => (w'.cell? ⟨gb333, 0, none⟩ = some (.int .u8 ((rd_T30 l0 x4_1).f0)) ∧ w'.cell? ⟨gb333, 1, none⟩ = some (.int .i64 ((rd_T30 l0 x4_1).f1)) ∧ w'.cell? ⟨gb333, 2, none⟩ = some (.slice A332_2 ((rd_T30 l0 x4_1).f2).length c332_2) ∧ w'.cell? ⟨gb333, 3, none⟩ = some (.slice A332_3 ((rd_T30 l0 x4_1).f3).length c332_3) ∧ w'.cell? ⟨gb333, 4, none⟩ = some (.slice A332_4 ((rd_T30 l0 x4_1).f4).length c332_4)) ∧ (Kd.R (Kd.int .i32) 21 w' w.heap.size (fun _ => True) s_.2.1 y337) ∧ (Kd.R k40 40 w' w.heap.size (fun _ => True) s_.2.2 y340) ∧ (Kd.S k30 30 w' w.heap.size (fun k_ => some k_ ≠ (s_.2.1 : Value).ownBlock ∧ some k_ ≠ (s_.2.2 : Value).ownBlock ∧ k_ ≠ gb333) (.slice Ao10 x3_1.length co10) x3_1) ∧ (w'.heap[gb333]? = some (.cells #[.int .u8 ((rd_T30 l0 x4_1).f0), .int .i64 ((rd_T30 l0 x4_1).f1), .slice A332_2 ((rd_T30 l0 x4_1).f2).length c332_2, .slice A332_3 ((rd_T30 l0 x4_1).f3).length c332_3, .slice A332_4 ((rd_T30 l0 x4_1).f4).length c332_4] 30 (0, 0))) ∧ (Below w.heap.size w w')) ?_ ?_
            rotate_left
            ·intro hJ5_8_9
             refine join_ (σ := Value × Value × Value) 7 #[true, true, true, true, true, true, true, true, true, false, true, true, false, true, true, true, false, false, false, false, false] (fun s_ => [(21, s_.1), (24, s_.2.1), (29, s_.2.2)]) (fun s_ w' => (w'.cell? ⟨gb333, 0, none⟩ = some (.int .u8 ((rd_T30 l0 x4_1).f0)) ∧ w'.cell? ⟨gb333, 1, none⟩ = some (.int .i64 ((rd_T30 l0 x4_1).f1)) ∧ w'.cell? ⟨gb333, 2, none⟩ = some (.slice A332_2 ((rd_T30 l0 x4_1).f2).length c332_2) ∧ w'.cell? ⟨gb333, 3, none⟩ = some (.slice A332_3 ((rd_T30 l0 x4_1).f3).length c332_3) ∧ w'.cell? ⟨gb333, 4, none⟩ = some (.slice A332_4 ((rd_T30 l0 x4_1).f4).length c332_4)) ∧ (Kd.R (Kd.int .i32) 21 w' w.heap.size (fun _ => True) s_.2.1 y337) ∧ (Kd.R k42 42 w' w.heap.size (fun _ => True) s_.2.2 y346) ∧ (Kd.S k30 30 w' w.heap.size (fun k_ => some k_ ≠ (s_.2.1 : Value).ownBlock ∧ some k_ ≠ (s_.2.2 : Value).ownBlock ∧ k_ ≠ gb333) (.slice Ao10 x3_1.length co10) x3_1) ∧ (w'.heap[gb333]? = some (.cells #[.int .u8 ((rd_T30 l0 x4_1).f0), .int .i64 ((rd_T30 l0 x4_1).f1), .slice A332_2 ((rd_T30 l0 x4_1).f2).length c332_2, .slice A332_3 ((rd_T30 l0 x4_1).f3).length c332_3, .slice A332_4 ((rd_T30 l0 x4_1).f4).length c332_4] 30 (0, 0))) ∧ (Below w.heap.size w w')) ?_ ?_
             rotate_left
             ·intro hJ5_8_13
              refine join_ (σ := Value × Value × Value) 7 #[true, true, true, true, true, true, true, true, false, true, true, true, false, true, true, true, false, false, false, false, false] (fun s_ => [(21, s_.1), (25, s_.2.1), (29, s_.2.2)]) (fun s_ w' => (w'.cell? ⟨gb333, 0, none⟩ = some (.int .u8 ((rd_T30 l0 x4_1).f0)) ∧ w'.cell? ⟨gb333, 1, none⟩ = some (.int .i64 ((rd_T30 l0 x4_1).f1)) ∧ w'.cell? ⟨gb333, 2, none⟩ = some (.slice A332_2 ((rd_T30 l0 x4_1).f2).length c332_2) ∧ w'.cell? ⟨gb333, 3, none⟩ = some (.slice A332_3 ((rd_T30 l0 x4_1).f3).length c332_3) ∧ w'.cell? ⟨gb333, 4, none⟩ = some (.slice A332_4 ((rd_T30 l0 x4_1).f4).length c332_4)) ∧ (Kd.R (Kd.int .i32) 21 w' w.heap.size (fun _ => True) s_.1 y334) ∧ (Kd.R k40 40 w' w.heap.size (fun _ => True) s_.2.1 y340) ∧ (Kd.R k42 42 w' w.heap.size (fun _ => True) s_.2.2 y346) ∧ (Kd.S k30 30 w' w.heap.size (fun k_ => some k_ ≠ (s_.1 : Value).ownBlock ∧ some k_ ≠ (s_.2.1 : Value).ownBlock ∧ some k_ ≠ (s_.2.2 : Value).ownBlock ∧ k_ ≠ gb333) (.slice Ao10 x3_1.length co10) x3_1) ∧ (w'.heap[gb333]? = some (.cells #[.int .u8 ((rd_T30 l0 x4_1).f0), .int .i64 ((rd_T30 l0 x4_1).f1), .slice A332_2 ((rd_T30 l0 x4_1).f2).length c332_2, .slice A332_3 ((rd_T30 l0 x4_1).f3).length c332_3, .slice A332_4 ((rd_T30 l0 x4_1).f4).length c332_4] 30 (0, 0))) ∧ (Below w.heap.size w w')) ?_ ?_
              rotate_left
              ·intro hJ5_9_13
               refine join_ (σ := Value × Value) 8 #[true, true, true, true, true, true, true, true, true, false, true, true, false, false, true, true, false, false, false, false, false] (fun s_ => [(21, s_.1), (24, s_.2)]) (fun s_ w' => (w'.cell? ⟨gb333, 0, none⟩ = some (.int .u8 ((rd_T30 l0 x4_1).f0)) ∧ w'.cell? ⟨gb333, 1, none⟩ = some (.int .i64 ((rd_T30 l0 x4_1).f1)) ∧ w'.cell? ⟨gb333, 2, none⟩ = some (.slice A332_2 ((rd_T30 l0 x4_1).f2).length c332_2) ∧ w'.cell? ⟨gb333, 3, none⟩ = some (.slice A332_3 ((rd_T30 l0 x4_1).f3).length c332_3) ∧ w'.cell? ⟨gb333, 4, none⟩ = some (.slice A332_4 ((rd_T30 l0 x4_1).f4).length c332_4)) ∧ (Kd.R (Kd.int .i32) 21 w' w.heap.size (fun _ => True) s_.2 y337) ∧ (Kd.S k30 30 w' w.heap.size (fun k_ => some k_ ≠ (s_.2 : Value).ownBlock ∧ k_ ≠ gb333) (.slice Ao10 x3_1.length co10) x3_1) ∧ (w'.heap[gb333]? = some (.cells #[.int .u8 ((rd_T30 l0 x4_1).f0), .int .i64 ((rd_T30 l0 x4_1).f1), .slice A332_2 ((rd_T30 l0 x4_1).f2).length c332_2, .slice A332_3 ((rd_T30 l0 x4_1).f3).length c332_3, .slice A332_4 ((rd_T30 l0 x4_1).f4).length c332_4] 30 (0, 0))) ∧ (Below w.heap.size w w')) ?_ ?_
               rotate_left
               ·intro hJ5_8
                refine join_ (σ := Value × Value) 8 #[true, true, true, true, true, true, true, true, false, true, true, true, false, false, true, true, false, false, false, false, false] (fun s_ => [(21, s_.1), (25, s_.2)]) (fun s_ w' => (w'.cell? ⟨gb333, 0, none⟩ = some (.int .u8 ((rd_T30 l0 x4_1).f0)) ∧ w'.cell? ⟨gb333, 1, none⟩ = some (.int .i64 ((rd_T30 l0 x4_1).f1)) ∧ w'.cell? ⟨gb333, 2, none⟩ = some (.slice A332_2 ((rd_T30 l0 x4_1).f2).length c332_2) ∧ w'.cell? ⟨gb333, 3, none⟩ = some (.slice A332_3 ((rd_T30 l0 x4_1).f3).length c332_3) ∧ w'.cell? ⟨gb333, 4, none⟩ = some (.slice A332_4 ((rd_T30 l0 x4_1).f4).length c332_4)) ∧ (Kd.R (Kd.int .i32) 21 w' w.heap.size (fun _ => True) s_.1 y334) ∧ (Kd.R k40 40 w' w.heap.size (fun _ => True) s_.2 y340) ∧ (Kd.S k30 30 w' w.heap.size (fun k_ => some k_ ≠ (s_.1 : Value).ownBlock ∧ some k_ ≠ (s_.2 : Value).ownBlock ∧ k_ ≠ gb333) (.slice Ao10 x3_1.length co10) x3_1) ∧ (w'.heap[gb333]? = some (.cells #[.int .u8 ((rd_T30 l0 x4_1).f0), .int .i64 ((rd_T30 l0 x4_1).f1), .slice A332_2 ((rd_T30 l0 x4_1).f2).length c332_2, .slice A332_3 ((rd_T30 l0 x4_1).f3).length c332_3, .slice A332_4 ((rd_T30 l0 x4_1).f4).length c332_4] 30 (0, 0))) ∧ (Below w.heap.size w w')) ?_ ?_
                rotate_left
                ·intro hJ5_9
                 refine join_ (σ := Value × Value) 8 #[true, true, true, true, true, true, true, true, false, false, true, true, false, true, true, true, false, false, false, false, false] (fun s_ => [(21, s_.1), (29, s_.2)]) (fun s_ w' => (w'.cell? ⟨gb333, 0, none⟩ = some (.int .u8 ((rd_T30 l0 x4_1).f0)) ∧ w'.cell? ⟨gb333, 1, none⟩ = some (.int .i64 ((rd_T30 l0 x4_1).f1)) ∧ w'.cell? ⟨gb333, 2, none⟩ = some (.slice A332_2 ((rd_T30 l0 x4_1).f2).length c332_2) ∧ w'.cell? ⟨gb333, 3, none⟩ = some (.slice A332_3 ((rd_T30 l0 x4_1).f3).length c332_3) ∧ w'.cell? ⟨gb333, 4, none⟩ = some (.slice A332_4 ((rd_T30 l0 x4_1).f4).length c332_4)) ∧ (Kd.R (Kd.int .i32) 21 w' w.heap.size (fun _ => True) s_.1 y334) ∧ (Kd.R k42 42 w' w.heap.size (fun _ => True) s_.2 y346) ∧ (Kd.S k30 30 w' w.heap.size (fun k_ => some k_ ≠ (s_.1 : Value).ownBlock ∧ some k_ ≠ (s_.2 : Value).ownBlock ∧ k_ ≠ gb333) (.slice Ao10 x3_1.length co10) x3_1) ∧ (w'.heap[gb333]? = some (.cells #[.int .u8 ((rd_T30 l0 x4_1).f0), .int .i64 ((rd_T30 l0 x4_1).f1), .slice A332_2 ((rd_T30 l0 x4_1).f2).length c332_2, .slice A332_3 ((rd_T30 l0 x4_1).f3).length c332_3, .slice A332_4 ((rd_T30 l0 x4_1).f4).length c332_4] 30 (0, 0))) ∧ (Below w.heap.size w w')) ?_ ?_
                 rotate_left
                 ·intro hJ5_13
                  refine join_ (σ := Value × Value) 8 #[true, true, true, true, true, false, true, true, false, true, true, true, false, true, true, true, false, false, false, false, false] (fun s_ => [(25, s_.1), (29, s_.2)]) (fun s_ w' => (w'.cell? ⟨gb333, 0, none⟩ = some (.int .u8 ((rd_T30 l0 x4_1).f0)) ∧ w'.cell? ⟨gb333, 1, none⟩ = some (.int .i64 ((rd_T30 l0 x4_1).f1)) ∧ w'.cell? ⟨gb333, 2, none⟩ = some (.slice A332_2 ((rd_T30 l0 x4_1).f2).length c332_2) ∧ w'.cell? ⟨gb333, 3, none⟩ = some (.slice A332_3 ((rd_T30 l0 x4_1).f3).length c332_3) ∧ w'.cell? ⟨gb333, 4, none⟩ = some (.slice A332_4 ((rd_T30 l0 x4_1).f4).length c332_4)) ∧ (Kd.R k40 40 w' w.heap.size (fun _ => True) s_.1 y340) ∧ (Kd.R k42 42 w' w.heap.size (fun _ => True) s_.2 y346) ∧ (Kd.S k30 30 w' w.heap.size (fun k_ => some k_ ≠ (s_.1 : Value).ownBlock ∧ some k_ ≠ (s_.2 : Value).ownBlock ∧ k_ ≠ gb333) (.slice Ao10 x3_1.length co10) x3_1) ∧ (w'.heap[gb333]? = some (.cells #[.int .u8 ((rd_T30 l0 x4_1).f0), .int .i64 ((rd_T30 l0 x4_1).f1), .slice A332_2 ((rd_T30 l0 x4_1).f2).length c332_2, .slice A332_3 ((rd_T30 l0 x4_1).f3).length c332_3, .slice A332_4 ((rd_T30 l0 x4_1).f4).length c332_4] 30 (0, 0))) ∧ (Below w.heap.size w w')) ?_ ?_
                  rotate_left
                  ·intro hJ9_13
                   refine join_ (σ := Value) 9 #[true, true, true, true, true, true, true, true, false, false, true, true, false, false, true, true, false, false, false, false, false] (fun s_ => [(21, s_)]) (fun s_ w' => (w'.cell? ⟨gb333, 0, none⟩ = some (.int .u8 ((rd_T30 l0 x4_1).f0)) ∧ w'.cell? ⟨gb333, 1, none⟩ = some (.int .i64 ((rd_T30 l0 x4_1).f1)) ∧ w'.cell? ⟨gb333, 2, none⟩ = some (.slice A332_2 ((rd_T30 l0 x4_1).f2).length c332_2) ∧ w'.cell? ⟨gb333, 3, none⟩ = some (.slice A332_3 ((rd_T30 l0 x4_1).f3).length c332_3) ∧ w'.cell? ⟨gb333, 4, none⟩ = some (.slice A332_4 ((rd_T30 l0 x4_1).f4).length c332_4)) ∧ (Kd.R (Kd.int .i32) 21 w' w.heap.size (fun _ => True) s_ y334) ∧ (Kd.S k30 30 w' w.heap.size (fun k_ => some k_ ≠ (s_ : Value).ownBlock ∧ k_ ≠ gb333) (.slice Ao10 x3_1.length co10) x3_1) ∧ (w'.heap[gb333]? = some (.cells #[.int .u8 ((rd_T30 l0 x4_1).f0), .int .i64 ((rd_T30 l0 x4_1).f1), .slice A332_2 ((rd_T30 l0 x4_1).f2).length c332_2, .slice A332_3 ((rd_T30 l0 x4_1).f3).length c332_3, .slice A332_4 ((rd_T30 l0 x4_1).f4).length c332_4] 30 (0, 0))) ∧ (Below w.heap.size w w')) ?_ ?_
                   rotate_left
                   ·intro hJ5
                    refine join_ (σ := Value) 9 #[true, true, true, true, true, false, true, true, false, true, true, true, false, false, true, true, false, false, false, false, false] (fun s_ => [(25, s_)]) (fun s_ w' => (w'.cell? ⟨gb333, 0, none⟩ = some (.int .u8 ((rd_T30 l0 x4_1).f0)) ∧ w'.cell? ⟨gb333, 1, none⟩ = some (.int .i64 ((rd_T30 l0 x4_1).f1)) ∧ w'.cell? ⟨gb333, 2, none⟩ = some (.slice A332_2 ((rd_T30 l0 x4_1).f2).length c332_2) ∧ w'.cell? ⟨gb333, 3, none⟩ = some (.slice A332_3 ((rd_T30 l0 x4_1).f3).length c332_3) ∧ w'.cell? ⟨gb333, 4, none⟩ = some (.slice A332_4 ((rd_T30 l0 x4_1).f4).length c332_4)) ∧ (Kd.R k40 40 w' w.heap.size (fun _ => True) s_ y340) ∧ (Kd.S k30 30 w' w.heap.size (fun k_ => some k_ ≠ (s_ : Value).ownBlock ∧ k_ ≠ gb333) (.slice Ao10 x3_1.length co10) x3_1) ∧ (w'.heap[gb333]? = some (.cells #[.int .u8 ((rd_T30 l0 x4_1).f0), .int .i64 ((rd_T30 l0 x4_1).f1), .slice A332_2 ((rd_T30 l0 x4_1).f2).length c332_2, .slice A332_3 ((rd_T30 l0 x4_1).f3).length c332_3, .slice A332_4 ((rd_T30 l0 x4_1).f4).length c332_4] 30 (0, 0))) ∧ (Below w.heap.size w w')) ?_ ?_
                    rotate_left
                    ·intro hJ9
                     refine join_ (σ := Value) 9 #[true, true, true, true, true, false, true, true, false, false, true, true, false, true, true, true, false, false, false, false, false] (fun s_ => [(29, s_)]) (fun s_ w' => (w'.cell? ⟨gb333, 0, none⟩ = some (.int .u8 ((rd_T30 l0 x4_1).f0)) ∧ w'.cell? ⟨gb333, 1, none⟩ = some (.int .i64 ((rd_T30 l0 x4_1).f1)) ∧ w'.cell? ⟨gb333, 2, none⟩ = some (.slice A332_2 ((rd_T30 l0 x4_1).f2).length c332_2) ∧ w'.cell? ⟨gb333, 3, none⟩ = some (.slice A332_3 ((rd_T30 l0 x4_1).f3).length c332_3) ∧ w'.cell? ⟨gb333, 4, none⟩ = some (.slice A332_4 ((rd_T30 l0 x4_1).f4).length c332_4)) ∧ (Kd.R k42 42 w' w.heap.size (fun _ => True) s_ y346) ∧ (Kd.S k30 30 w' w.heap.size (fun k_ => some k_ ≠ (s_ : Value).ownBlock ∧ k_ ≠ gb333) (.slice Ao10 x3_1.length co10) x3_1) ∧ (w'.heap[gb333]? = some (.cells #[.int .u8 ((rd_T30 l0 x4_1).f0), .int .i64 ((rd_T30 l0 x4_1).f1), .slice A332_2 ((rd_T30 l0 x4_1).f2).length c332_2, .slice A332_3 ((rd_T30 l0 x4_1).f3).length c332_3, .slice A332_4 ((rd_T30 l0 x4_1).f4).length c332_4] 30 (0, 0))) ∧ (Below w.heap.size w w')) ?_ ?_
                     rotate_left
                     ·intro hJ13
                      refine three_ (i := 5) (j := 9) (k := 13) (Ni := some 21) (Nj := some 25) (Nk := some 29) #[true, true, true, true, true, true, true, true, false, false, true, true, false, false, true, true, false, false, false, false, false] #[true, true, true, true, true, false, true, true, false, true, true, true, false, false, true, true, false, false, false, false, false] #[true, true, true, true, true, false, true, true, false, false, true, true, false, true, true, true, false, false, false, false, false] rfl rfl rfl rfl rfl rfl (three_of HT_.out (by kernel_rfl)) (by decide) (by decide) (by decide) (fun K hK => ?_) (fun K hK => ?_) (fun K hK => ?_)
                      ·skip
                       refine Kd.R_lit_step (Kd.int .i32) _ 21 ?hg (N := 21) ?hd (xs := ([] : List Int)) (inner := []) (ok := fun _ => True) (okp := fun _ => True) ?hr ?hp (fun _ hk => hk) trivial (Below.refl _ _) (Nat.le_refl _) (by simp) ?_; (case hd => rfl); (case hg => rfl); (case hr => first | (go_simp; done) | (go_simp; rfl)); (case hp => exact (Reps.none _ _))
                       intro v335 w13 ho14 hb hg_ hnew_
                       clear hg_ hnew_
                       (first | rw [← Ny334.out] at ho14 | (simp only [Int.reduceToNat] at ho14; rw [← Ny334.out] at ho14))
                       have n0_ := Aside0.mk (Kd.S_elder' (by (with_reducible repeat (first | apply Kd.S_alloc | apply Kd.S_drewN | apply Kd.S_drew)); exact HO_3.out) (Kd.R_base ho14) hb)
                       have n1_ := Aside0.mk (Kd.R_lower ho14 (below_size (by repeat (first | (with_reducible first | exact HB.out | apply below_alloc | apply pw_below_drewN | apply below_drew1 | refine below_set ?_ GE333.out) | exact HB.out))))
                       have n2_ := Aside0.mk (blk_below (g := gb333) (o := .cells #[.int .u8 ((rd_T30 l0 x4_1).f0), .int .i64 ((rd_T30 l0 x4_1).f1), .slice A332_2 ((rd_T30 l0 x4_1).f2).length c332_2, .slice A332_3 ((rd_T30 l0 x4_1).f3).length c332_3, .slice A332_4 ((rd_T30 l0 x4_1).f4).length c332_4] 30 (0, 0)) (by (with_reducible repeat (first | refine blk_drewN ?_ _ | refine blk_drew ?_ | refine blk_alloc ?_ _)); exact BK333.out) hb)
                       have n3_ := Aside0.mk (below_step (by repeat (first | (with_reducible first | exact HB.out | apply below_alloc | apply pw_below_drewN | apply below_drew1 | refine below_set ?_ GE333.out) | exact HB.out)) hb)
                       clear HO_3
                       clear BK333
                       clear HB
                       have HO_3 := n0_
                       have HO336 := n1_
                       have BK333 := n2_
                       have HB := n3_
                       clear n0_ n1_ n2_ n3_
                       clear hb ho14
                       refine hK.out _ _ ⟨(blk_cell BK333.out 0).trans rfl, (blk_cell BK333.out 1).trans rfl, (blk_cell BK333.out 2).trans rfl, (blk_cell BK333.out 3).trans rfl, (blk_cell BK333.out 4).trans rfl⟩ (fun hHeld => ?_)
                       clear hK K
                       refine norm_ (a' := ?_) ?_ ?_
                       rotate_left
                       ·show Act.put _ (some 21) _ = _
                        simp only [Act.put, List.setIfInBounds_toArray, List.set_cons_zero, List.set_cons_succ, i64_w, i32_w]
                        rfl
                       exact norm_ (by first | (simp only [putAll, Act.put, List.setIfInBounds_toArray, List.set_cons_zero, List.set_cons_succ]; done) | (simp only [putAll, Act.put, List.setIfInBounds_toArray, List.set_cons_zero, List.set_cons_succ]; rfl)) (hJ5 (v335) _ ⟨hHeld, (by (with_reducible repeat (first | apply Kd.R_alloc | apply Kd.R_drewN | apply Kd.R_drew)); exact HO336.out), (by (with_reducible repeat (first | apply Kd.S_alloc | apply Kd.S_drewN | apply Kd.S_drew)); exact Kd.S_mono HO_3.out (fun _ hk => ⟨hk.2, hk.1⟩)), (by (with_reducible repeat (first | refine blk_drewN ?_ _ | refine blk_drew ?_ | refine blk_alloc ?_ _)); exact BK333.out), (by repeat (first | (with_reducible first | exact HB.out | apply below_alloc | apply pw_below_drewN | apply below_drew1 | refine below_set ?_ GE333.out) | exact HB.out))⟩)
                      ·skip
                       refine Kd.R_lit_step k40 _ 40 ?hg (N := 25) ?hd (xs := ([] : List (S40))) (inner := []) (ok := fun _ => True) (okp := fun _ => True) ?hr ?hp (fun _ hk => hk) trivial (Below.refl _ _) (Nat.le_refl _) (by simp) ?_; (case hd => rfl); (case hg => rfl); (case hr => first | (go_simp; done) | (go_simp; rfl)); (case hp => exact (Reps.none _ _))
                       intro v341 w13 ho14 hb hg_ hnew_
                       clear hg_ hnew_
                       (first | rw [← Ny340.out] at ho14 | (simp only [Int.reduceToNat] at ho14; rw [← Ny340.out] at ho14))
                       have n0_ := Aside0.mk (Kd.S_elder' (by (with_reducible repeat (first | apply Kd.S_alloc | apply Kd.S_drewN | apply Kd.S_drew)); exact HO_3.out) (Kd.R_base ho14) hb)
                       have n1_ := Aside0.mk (Kd.R_lower ho14 (below_size (by repeat (first | (with_reducible first | exact HB.out | apply below_alloc | apply pw_below_drewN | apply below_drew1 | refine below_set ?_ GE333.out) | exact HB.out))))
                       have n2_ := Aside0.mk (blk_below (g := gb333) (o := .cells #[.int .u8 ((rd_T30 l0 x4_1).f0), .int .i64 ((rd_T30 l0 x4_1).f1), .slice A332_2 ((rd_T30 l0 x4_1).f2).length c332_2, .slice A332_3 ((rd_T30 l0 x4_1).f3).length c332_3, .slice A332_4 ((rd_T30 l0 x4_1).f4).length c332_4] 30 (0, 0)) (by (with_reducible repeat (first | refine blk_drewN ?_ _ | refine blk_drew ?_ | refine blk_alloc ?_ _)); exact BK333.out) hb)
                       have n3_ := Aside0.mk (below_step (by repeat (first | (with_reducible first | exact HB.out | apply below_alloc | apply pw_below_drewN | apply below_drew1 | refine below_set ?_ GE333.out) | exact HB.out)) hb)
                       clear HO_3
                       clear BK333
                       clear HB
                       have HO_3 := n0_
                       have HO342 := n1_
                       have BK333 := n2_
                       have HB := n3_
                       clear n0_ n1_ n2_ n3_
                       clear hb ho14
                       refine hK.out _ _ ⟨(blk_cell BK333.out 0).trans rfl, (blk_cell BK333.out 1).trans rfl, (blk_cell BK333.out 2).trans rfl, (blk_cell BK333.out 3).trans rfl, (blk_cell BK333.out 4).trans rfl⟩ (fun hHeld => ?_)
                       clear hK K
                       refine norm_ (a' := ?_) ?_ ?_
                       rotate_left
                       ·show Act.put _ (some 25) _ = _
                        simp only [Act.put, List.setIfInBounds_toArray, List.set_cons_zero, List.set_cons_succ, i64_w, i32_w]
                        rfl
                       exact norm_ (by first | (simp only [putAll, Act.put, List.setIfInBounds_toArray, List.set_cons_zero, List.set_cons_succ]; done) | (simp only [putAll, Act.put, List.setIfInBounds_toArray, List.set_cons_zero, List.set_cons_succ]; rfl)) (hJ9 (v341) _ ⟨hHeld, (by (with_reducible repeat (first | apply Kd.R_alloc | apply Kd.R_drewN | apply Kd.R_drew)); exact HO342.out), (by (with_reducible repeat (first | apply Kd.S_alloc | apply Kd.S_drewN | apply Kd.S_drew)); exact Kd.S_mono HO_3.out (fun _ hk => ⟨hk.2, hk.1⟩)), (by (with_reducible repeat (first | refine blk_drewN ?_ _ | refine blk_drew ?_ | refine blk_alloc ?_ _)); exact BK333.out), (by repeat (first | (with_reducible first | exact HB.out | apply below_alloc | apply pw_below_drewN | apply below_drew1 | refine below_set ?_ GE333.out) | exact HB.out))⟩)
                      ·skip
                       refine Kd.R_lit_step k42 _ 42 ?hg (N := 29) ?hd (xs := ([] : List (S42))) (inner := []) (ok := fun _ => True) (okp := fun _ => True) ?hr ?hp (fun _ hk => hk) trivial (Below.refl _ _) (Nat.le_refl _) (by simp) ?_; (case hd => rfl); (case hg => rfl); (case hr => first | (go_simp; done) | (go_simp; rfl)); (case hp => exact (Reps.none _ _))
                       intro v347 w13 ho14 hb hg_ hnew_
                       clear hg_ hnew_
                       (first | rw [← Ny346.out] at ho14 | (simp only [Int.reduceToNat] at ho14; rw [← Ny346.out] at ho14))
                       have n0_ := Aside0.mk (Kd.S_elder' (by (with_reducible repeat (first | apply Kd.S_alloc | apply Kd.S_drewN | apply Kd.S_drew)); exact HO_3.out) (Kd.R_base ho14) hb)
                       have n1_ := Aside0.mk (Kd.R_lower ho14 (below_size (by repeat (first | (with_reducible first | exact HB.out | apply below_alloc | apply pw_below_drewN | apply below_drew1 | refine below_set ?_ GE333.out) | exact HB.out))))
                       have n2_ := Aside0.mk (blk_below (g := gb333) (o := .cells #[.int .u8 ((rd_T30 l0 x4_1).f0), .int .i64 ((rd_T30 l0 x4_1).f1), .slice A332_2 ((rd_T30 l0 x4_1).f2).length c332_2, .slice A332_3 ((rd_T30 l0 x4_1).f3).length c332_3, .slice A332_4 ((rd_T30 l0 x4_1).f4).length c332_4] 30 (0, 0)) (by (with_reducible repeat (first | refine blk_drewN ?_ _ | refine blk_drew ?_ | refine blk_alloc ?_ _)); exact BK333.out) hb)
                       have n3_ := Aside0.mk (below_step (by repeat (first | (with_reducible first | exact HB.out | apply below_alloc | apply pw_below_drewN | apply below_drew1 | refine below_set ?_ GE333.out) | exact HB.out)) hb)
                       clear HO_3
                       clear BK333
                       clear HB
                       have HO_3 := n0_
                       have HO348 := n1_
                       have BK333 := n2_
                       have HB := n3_
                       clear n0_ n1_ n2_ n3_
                       clear hb ho14
                       refine hK.out _ _ ⟨(blk_cell BK333.out 0).trans rfl, (blk_cell BK333.out 1).trans rfl, (blk_cell BK333.out 2).trans rfl, (blk_cell BK333.out 3).trans rfl, (blk_cell BK333.out 4).trans rfl⟩ (fun hHeld => ?_)
                       clear hK K
                       refine norm_ (a' := ?_) ?_ ?_
                       rotate_left
                       ·show Act.put _ (some 29) _ = _
                        simp only [Act.put, List.setIfInBounds_toArray, List.set_cons_zero, List.set_cons_succ, i64_w, i32_w]
                        rfl
                       exact norm_ (by first | (simp only [putAll, Act.put, List.setIfInBounds_toArray, List.set_cons_zero, List.set_cons_succ]; done) | (simp only [putAll, Act.put, List.setIfInBounds_toArray, List.set_cons_zero, List.set_cons_succ]; rfl)) (hJ13 (v347) _ ⟨hHeld, (by (with_reducible repeat (first | apply Kd.R_alloc | apply Kd.R_drewN | apply Kd.R_drew)); exact HO348.out), (by (with_reducible repeat (first | apply Kd.S_alloc | apply Kd.S_drewN | apply Kd.S_drew)); exact Kd.S_mono HO_3.out (fun _ hk => ⟨hk.2, hk.1⟩)), (by (with_reducible repeat (first | refine blk_drewN ?_ _ | refine blk_drew ?_ | refine blk_alloc ?_ _)); exact BK333.out), (by repeat (first | (with_reducible first | exact HB.out | apply below_alloc | apply pw_below_drewN | apply below_drew1 | refine below_set ?_ GE333.out) | exact HB.out))⟩)
                     ·skip
                      rintro v347 w15 ⟨hS_, h0_, h1_, h2_, h3_⟩
                      have n0_ : Aside0 (Kd.R k42 42 w15 w.heap.size (fun _ => True) v347 y346) := ⟨h0_⟩
                      have n1_ : Aside0 (Kd.S k30 30 w15 w.heap.size (fun k_ => some k_ ≠ (v347 : Value).ownBlock ∧ k_ ≠ gb333) (.slice Ao10 x3_1.length co10) x3_1) := ⟨h1_⟩
                      have n2_ : Aside0 (w15.heap[gb333]? = some (.cells #[.int .u8 ((rd_T30 l0 x4_1).f0), .int .i64 ((rd_T30 l0 x4_1).f1), .slice A332_2 ((rd_T30 l0 x4_1).f2).length c332_2, .slice A332_3 ((rd_T30 l0 x4_1).f3).length c332_3, .slice A332_4 ((rd_T30 l0 x4_1).f4).length c332_4] 30 (0, 0))) := ⟨h2_⟩
                      have n3_ : Aside0 (Below w.heap.size w w15) := ⟨h3_⟩
                      clear HO_3
                      clear BK333
                      clear HB
                      clear h0_ h1_ h2_ h3_
                      have HO348 := n0_
                      have HO_3 := n1_
                      have BK333 := n2_
                      have HB := n3_
                      clear n0_ n1_ n2_ n3_
                      have hHeld : w15.cell? ⟨gb333, 0, none⟩ = some (.int .u8 ((rd_T30 l0 x4_1).f0)) ∧ w15.cell? ⟨gb333, 1, none⟩ = some (.int .i64 ((rd_T30 l0 x4_1).f1)) ∧ w15.cell? ⟨gb333, 2, none⟩ = some (.slice A332_2 ((rd_T30 l0 x4_1).f2).length c332_2) ∧ w15.cell? ⟨gb333, 3, none⟩ = some (.slice A332_3 ((rd_T30 l0 x4_1).f3).length c332_3) ∧ w15.cell? ⟨gb333, 4, none⟩ = some (.slice A332_4 ((rd_T30 l0 x4_1).f4).length c332_4) := hS_
                      refine norm_ (a' := ?_) ?_ ?_
                      rotate_left
                      ·simp only [putAll, Act.put, List.setIfInBounds_toArray, List.set_cons_zero, List.set_cons_succ]
                       rfl
                      refine two_ (i := 5) (j := 9) (Ni := some 21) (Nj := some 25) #[true, true, true, true, true, true, true, true, false, false, true, true, false, true, true, true, false, false, false, false, false] #[true, true, true, true, true, false, true, true, false, true, true, true, false, true, true, true, false, false, false, false, false] rfl rfl rfl rfl (two_of HT_.out (by kernel_rfl)) (by decide) (by decide) (fun K hK => ?_) (fun K hK => ?_)
                      ·skip
                       refine Kd.R_lit_step (Kd.int .i32) _ 21 ?hg (N := 21) ?hd (xs := ([] : List Int)) (inner := []) (ok := fun _ => True) (okp := fun _ => True) ?hr ?hp (fun _ hk => hk) trivial (Below.refl _ _) (Nat.le_refl _) (by simp) ?_; (case hd => rfl); (case hg => rfl); (case hr => first | (go_simp; done) | (go_simp; rfl)); (case hp => exact (Reps.none _ _))
                       intro v335 w16 ho17 hb hg_ hnew_
                       clear hg_ hnew_
                       (first | rw [← Ny334.out] at ho17 | (simp only [Int.reduceToNat] at ho17; rw [← Ny334.out] at ho17))
                       have n0_ := Aside0.mk (Kd.S_elder' (by (with_reducible repeat (first | apply Kd.S_alloc | apply Kd.S_drewN | apply Kd.S_drew)); exact HO_3.out) (Kd.R_base ho17) hb)
                       have n1_ := Aside0.mk (Kd.R_below (by (with_reducible repeat (first | apply Kd.R_alloc | apply Kd.R_drewN | apply Kd.R_drew)); exact HO348.out) hb)
                       have n2_ := Aside0.mk (Kd.R_lower ho17 (below_size (by repeat (first | (with_reducible first | exact HB.out | apply below_alloc | apply pw_below_drewN | apply below_drew1 | refine below_set ?_ GE333.out) | exact HB.out))))
                       have n3_ := Aside0.mk (blk_below (g := gb333) (o := .cells #[.int .u8 ((rd_T30 l0 x4_1).f0), .int .i64 ((rd_T30 l0 x4_1).f1), .slice A332_2 ((rd_T30 l0 x4_1).f2).length c332_2, .slice A332_3 ((rd_T30 l0 x4_1).f3).length c332_3, .slice A332_4 ((rd_T30 l0 x4_1).f4).length c332_4] 30 (0, 0)) (by (with_reducible repeat (first | refine blk_drewN ?_ _ | refine blk_drew ?_ | refine blk_alloc ?_ _)); exact BK333.out) hb)
                       have n4_ := Aside0.mk (below_step (by repeat (first | (with_reducible first | exact HB.out | apply below_alloc | apply pw_below_drewN | apply below_drew1 | refine below_set ?_ GE333.out) | exact HB.out)) hb)
                       clear HO_3
                       clear HO348
                       clear BK333
                       clear HB
                       have HO_3 := n0_
                       have HO348 := n1_
                       have HO336 := n2_
                       have BK333 := n3_
                       have HB := n4_
                       clear n0_ n1_ n2_ n3_ n4_
                       clear hb ho17
                       refine hK.out _ _ ⟨(blk_cell BK333.out 0).trans rfl, (blk_cell BK333.out 1).trans rfl, (blk_cell BK333.out 2).trans rfl, (blk_cell BK333.out 3).trans rfl, (blk_cell BK333.out 4).trans rfl⟩ (fun hHeld => ?_)
                       clear hK K
                       refine norm_ (a' := ?_) ?_ ?_
                       rotate_left
                       ·show Act.put _ (some 21) _ = _
                        simp only [Act.put, List.setIfInBounds_toArray, List.set_cons_zero, List.set_cons_succ, i64_w, i32_w]
                        rfl
                       exact norm_ (by first | (simp only [putAll, Act.put, List.setIfInBounds_toArray, List.set_cons_zero, List.set_cons_succ]; done) | (simp only [putAll, Act.put, List.setIfInBounds_toArray, List.set_cons_zero, List.set_cons_succ]; rfl)) (hJ5_13 (v335, v347) _ ⟨hHeld, (by (with_reducible repeat (first | apply Kd.R_alloc | apply Kd.R_drewN | apply Kd.R_drew)); exact HO336.out), (by (with_reducible repeat (first | apply Kd.R_alloc | apply Kd.R_drewN | apply Kd.R_drew)); exact HO348.out), (by (with_reducible repeat (first | apply Kd.S_alloc | apply Kd.S_drewN | apply Kd.S_drew)); exact Kd.S_mono HO_3.out (fun _ hk => ⟨hk.2, ⟨hk.1.1, hk.1.2⟩⟩)), (by (with_reducible repeat (first | refine blk_drewN ?_ _ | refine blk_drew ?_ | refine blk_alloc ?_ _)); exact BK333.out), (by repeat (first | (with_reducible first | exact HB.out | apply below_alloc | apply pw_below_drewN | apply below_drew1 | refine below_set ?_ GE333.out) | exact HB.out))⟩)
                      ·skip
                       refine Kd.R_lit_step k40 _ 40 ?hg (N := 25) ?hd (xs := ([] : List (S40))) (inner := []) (ok := fun _ => True) (okp := fun _ => True) ?hr ?hp (fun _ hk => hk) trivial (Below.refl _ _) (Nat.le_refl _) (by simp) ?_; (case hd => rfl); (case hg => rfl); (case hr => first | (go_simp; done) | (go_simp; rfl)); (case hp => exact (Reps.none _ _))
                       intro v341 w16 ho17 hb hg_ hnew_
                       clear hg_ hnew_
                       (first | rw [← Ny340.out] at ho17 | (simp only [Int.reduceToNat] at ho17; rw [← Ny340.out] at ho17))
                       have n0_ := Aside0.mk (Kd.S_elder' (by (with_reducible repeat (first | apply Kd.S_alloc | apply Kd.S_drewN | apply Kd.S_drew)); exact HO_3.out) (Kd.R_base ho17) hb)
                       have n1_ := Aside0.mk (Kd.R_below (by (with_reducible repeat (first | apply Kd.R_alloc | apply Kd.R_drewN | apply Kd.R_drew)); exact HO348.out) hb)
                       have n2_ := Aside0.mk (Kd.R_lower ho17 (below_size (by repeat (first | (with_reducible first | exact HB.out | apply below_alloc | apply pw_below_drewN | apply below_drew1 | refine below_set ?_ GE333.out) | exact HB.out))))
                       have n3_ := Aside0.mk (blk_below (g := gb333) (o := .cells #[.int .u8 ((rd_T30 l0 x4_1).f0), .int .i64 ((rd_T30 l0 x4_1).f1), .slice A332_2 ((rd_T30 l0 x4_1).f2).length c332_2, .slice A332_3 ((rd_T30 l0 x4_1).f3).length c332_3, .slice A332_4 ((rd_T30 l0 x4_1).f4).length c332_4] 30 (0, 0)) (by (with_reducible repeat (first | refine blk_drewN ?_ _ | refine blk_drew ?_ | refine blk_alloc ?_ _)); exact BK333.out) hb)
                       have n4_ := Aside0.mk (below_step (by repeat (first | (with_reducible first | exact HB.out | apply below_alloc | apply pw_below_drewN | apply below_drew1 | refine below_set ?_ GE333.out) | exact HB.out)) hb)
                       clear HO_3
                       clear HO348
                       clear BK333
                       clear HB
                       have HO_3 := n0_
                       have HO348 := n1_
                       have HO342 := n2_
                       have BK333 := n3_
                       have HB := n4_
                       clear n0_ n1_ n2_ n3_ n4_
                       clear hb ho17
                       refine hK.out _ _ ⟨(blk_cell BK333.out 0).trans rfl, (blk_cell BK333.out 1).trans rfl, (blk_cell BK333.out 2).trans rfl, (blk_cell BK333.out 3).trans rfl, (blk_cell BK333.out 4).trans rfl⟩ (fun hHeld => ?_)
                       clear hK K
                       refine norm_ (a' := ?_) ?_ ?_
                       rotate_left
                       ·show Act.put _ (some 25) _ = _
                        simp only [Act.put, List.setIfInBounds_toArray, List.set_cons_zero, List.set_cons_succ, i64_w, i32_w]
                        rfl
                       exact norm_ (by first | (simp only [putAll, Act.put, List.setIfInBounds_toArray, List.set_cons_zero, List.set_cons_succ]; done) | (simp only [putAll, Act.put, List.setIfInBounds_toArray, List.set_cons_zero, List.set_cons_succ]; rfl)) (hJ9_13 (v341, v347) _ ⟨hHeld, (by (with_reducible repeat (first | apply Kd.R_alloc | apply Kd.R_drewN | apply Kd.R_drew)); exact HO342.out), (by (with_reducible repeat (first | apply Kd.R_alloc | apply Kd.R_drewN | apply Kd.R_drew)); exact HO348.out), (by (with_reducible repeat (first | apply Kd.S_alloc | apply Kd.S_drewN | apply Kd.S_drew)); exact Kd.S_mono HO_3.out (fun _ hk => ⟨hk.2, ⟨hk.1.1, hk.1.2⟩⟩)), (by (with_reducible repeat (first | refine blk_drewN ?_ _ | refine blk_drew ?_ | refine blk_alloc ?_ _)); exact BK333.out), (by repeat (first | (with_reducible first | exact HB.out | apply below_alloc | apply pw_below_drewN | apply below_drew1 | refine below_set ?_ GE333.out) | exact HB.out))⟩)
                    ·skip
                     rintro v341 w15 ⟨hS_, h0_, h1_, h2_, h3_⟩
                     have n0_ : Aside0 (Kd.R k40 40 w15 w.heap.size (fun _ => True) v341 y340) := ⟨h0_⟩
                     have n1_ : Aside0 (Kd.S k30 30 w15 w.heap.size (fun k_ => some k_ ≠ (v341 : Value).ownBlock ∧ k_ ≠ gb333) (.slice Ao10 x3_1.length co10) x3_1) := ⟨h1_⟩
                     have n2_ : Aside0 (w15.heap[gb333]? = some (.cells #[.int .u8 ((rd_T30 l0 x4_1).f0), .int .i64 ((rd_T30 l0 x4_1).f1), .slice A332_2 ((rd_T30 l0 x4_1).f2).length c332_2, .slice A332_3 ((rd_T30 l0 x4_1).f3).length c332_3, .slice A332_4 ((rd_T30 l0 x4_1).f4).length c332_4] 30 (0, 0))) := ⟨h2_⟩
                     have n3_ : Aside0 (Below w.heap.size w w15) := ⟨h3_⟩
                     clear HO_3
                     clear BK333
                     clear HB
                     clear h0_ h1_ h2_ h3_
                     have HO342 := n0_
                     have HO_3 := n1_
                     have BK333 := n2_
                     have HB := n3_
                     clear n0_ n1_ n2_ n3_
                     have hHeld : w15.cell? ⟨gb333, 0, none⟩ = some (.int .u8 ((rd_T30 l0 x4_1).f0)) ∧ w15.cell? ⟨gb333, 1, none⟩ = some (.int .i64 ((rd_T30 l0 x4_1).f1)) ∧ w15.cell? ⟨gb333, 2, none⟩ = some (.slice A332_2 ((rd_T30 l0 x4_1).f2).length c332_2) ∧ w15.cell? ⟨gb333, 3, none⟩ = some (.slice A332_3 ((rd_T30 l0 x4_1).f3).length c332_3) ∧ w15.cell? ⟨gb333, 4, none⟩ = some (.slice A332_4 ((rd_T30 l0 x4_1).f4).length c332_4) := hS_
                     refine norm_ (a' := ?_) ?_ ?_
                     rotate_left
                     ·simp only [putAll, Act.put, List.setIfInBounds_toArray, List.set_cons_zero, List.set_cons_succ]
                      rfl
                     refine two_ (i := 5) (j := 13) (Ni := some 21) (Nj := some 29) #[true, true, true, true, true, true, true, true, false, true, true, true, false, false, true, true, false, false, false, false, false] #[true, true, true, true, true, false, true, true, false, true, true, true, false, true, true, true, false, false, false, false, false] rfl rfl rfl rfl (two_of HT_.out (by kernel_rfl)) (by decide) (by decide) (fun K hK => ?_) (fun K hK => ?_)
                     ·skip
                      refine Kd.R_lit_step (Kd.int .i32) _ 21 ?hg (N := 21) ?hd (xs := ([] : List Int)) (inner := []) (ok := fun _ => True) (okp := fun _ => True) ?hr ?hp (fun _ hk => hk) trivial (Below.refl _ _) (Nat.le_refl _) (by simp) ?_; (case hd => rfl); (case hg => rfl); (case hr => first | (go_simp; done) | (go_simp; rfl)); (case hp => exact (Reps.none _ _))
                      intro v335 w16 ho17 hb hg_ hnew_
                      clear hg_ hnew_
                      (first | rw [← Ny334.out] at ho17 | (simp only [Int.reduceToNat] at ho17; rw [← Ny334.out] at ho17))
                      have n0_ := Aside0.mk (Kd.S_elder' (by (with_reducible repeat (first | apply Kd.S_alloc | apply Kd.S_drewN | apply Kd.S_drew)); exact HO_3.out) (Kd.R_base ho17) hb)
                      have n1_ := Aside0.mk (Kd.R_below (by (with_reducible repeat (first | apply Kd.R_alloc | apply Kd.R_drewN | apply Kd.R_drew)); exact HO342.out) hb)
                      have n2_ := Aside0.mk (Kd.R_lower ho17 (below_size (by repeat (first | (with_reducible first | exact HB.out | apply below_alloc | apply pw_below_drewN | apply below_drew1 | refine below_set ?_ GE333.out) | exact HB.out))))
                      have n3_ := Aside0.mk (blk_below (g := gb333) (o := .cells #[.int .u8 ((rd_T30 l0 x4_1).f0), .int .i64 ((rd_T30 l0 x4_1).f1), .slice A332_2 ((rd_T30 l0 x4_1).f2).length c332_2, .slice A332_3 ((rd_T30 l0 x4_1).f3).length c332_3, .slice A332_4 ((rd_T30 l0 x4_1).f4).length c332_4] 30 (0, 0)) (by (with_reducible repeat (first | refine blk_drewN ?_ _ | refine blk_drew ?_ | refine blk_alloc ?_ _)); exact BK333.out) hb)
                      have n4_ := Aside0.mk (below_step (by repeat (first | (with_reducible first | exact HB.out | apply below_alloc | apply pw_below_drewN | apply below_drew1 | refine below_set ?_ GE333.out) | exact HB.out)) hb)
                      clear HO_3
                      clear HO342
                      clear BK333
                      clear HB
                      have HO_3 := n0_
                      have HO342 := n1_
                      have HO336 := n2_
                      have BK333 := n3_
                      have HB := n4_
                      clear n0_ n1_ n2_ n3_ n4_
                      clear hb ho17
                      refine hK.out _ _ ⟨(blk_cell BK333.out 0).trans rfl, (blk_cell BK333.out 1).trans rfl, (blk_cell BK333.out 2).trans rfl, (blk_cell BK333.out 3).trans rfl, (blk_cell BK333.out 4).trans rfl⟩ (fun hHeld => ?_)
                      clear hK K
                      refine norm_ (a' := ?_) ?_ ?_
                      rotate_left
                      ·show Act.put _ (some 21) _ = _
                       simp only [Act.put, List.setIfInBounds_toArray, List.set_cons_zero, List.set_cons_succ, i64_w, i32_w]
                       rfl
                      exact norm_ (by first | (simp only [putAll, Act.put, List.setIfInBounds_toArray, List.set_cons_zero, List.set_cons_succ]; done) | (simp only [putAll, Act.put, List.setIfInBounds_toArray, List.set_cons_zero, List.set_cons_succ]; rfl)) (hJ5_9 (v335, v341) _ ⟨hHeld, (by (with_reducible repeat (first | apply Kd.R_alloc | apply Kd.R_drewN | apply Kd.R_drew)); exact HO336.out), (by (with_reducible repeat (first | apply Kd.R_alloc | apply Kd.R_drewN | apply Kd.R_drew)); exact HO342.out), (by (with_reducible repeat (first | apply Kd.S_alloc | apply Kd.S_drewN | apply Kd.S_drew)); exact Kd.S_mono HO_3.out (fun _ hk => ⟨hk.2, ⟨hk.1.1, hk.1.2⟩⟩)), (by (with_reducible repeat (first | refine blk_drewN ?_ _ | refine blk_drew ?_ | refine blk_alloc ?_ _)); exact BK333.out), (by repeat (first | (with_reducible first | exact HB.out | apply below_alloc | apply pw_below_drewN | apply below_drew1 | refine below_set ?_ GE333.out) | exact HB.out))⟩)
                     ·skip
                      refine Kd.R_lit_step k42 _ 42 ?hg (N := 29) ?hd (xs := ([] : List (S42))) (inner := []) (ok := fun _ => True) (okp := fun _ => True) ?hr ?hp (fun _ hk => hk) trivial (Below.refl _ _) (Nat.le_refl _) (by simp) ?_; (case hd => rfl); (case hg => rfl); (case hr => first | (go_simp; done) | (go_simp; rfl)); (case hp => exact (Reps.none _ _))
                      intro v347 w16 ho17 hb hg_ hnew_
                      clear hg_ hnew_
                      (first | rw [← Ny346.out] at ho17 | (simp only [Int.reduceToNat] at ho17; rw [← Ny346.out] at ho17))
                      have n0_ := Aside0.mk (Kd.S_elder' (by (with_reducible repeat (first | apply Kd.S_alloc | apply Kd.S_drewN | apply Kd.S_drew)); exact HO_3.out) (Kd.R_base ho17) hb)
                      have n1_ := Aside0.mk (Kd.R_below (by (with_reducible repeat (first | apply Kd.R_alloc | apply Kd.R_drewN | apply Kd.R_drew)); exact HO342.out) hb)
                      have n2_ := Aside0.mk (Kd.R_lower ho17 (below_size (by repeat (first | (with_reducible first | exact HB.out | apply below_alloc | apply pw_below_drewN | apply below_drew1 | refine below_set ?_ GE333.out) | exact HB.out))))
                      have n3_ := Aside0.mk (blk_below (g := gb333) (o := .cells #[.int .u8 ((rd_T30 l0 x4_1).f0), .int .i64 ((rd_T30 l0 x4_1).f1), .slice A332_2 ((rd_T30 l0 x4_1).f2).length c332_2, .slice A332_3 ((rd_T30 l0 x4_1).f3).length c332_3, .slice A332_4 ((rd_T30 l0 x4_1).f4).length c332_4] 30 (0, 0)) (by (with_reducible repeat (first | refine blk_drewN ?_ _ | refine blk_drew ?_ | refine blk_alloc ?_ _)); exact BK333.out) hb)
                      have n4_ := Aside0.mk (below_step (by repeat (first | (with_reducible first | exact HB.out | apply below_alloc | apply pw_below_drewN | apply below_drew1 | refine below_set ?_ GE333.out) | exact HB.out)) hb)
                      clear HO_3
                      clear HO342
                      clear BK333
                      clear HB
                      have HO_3 := n0_
                      have HO342 := n1_
                      have HO348 := n2_
                      have BK333 := n3_
                      have HB := n4_
                      clear n0_ n1_ n2_ n3_ n4_
                      clear hb ho17
                      refine hK.out _ _ ⟨(blk_cell BK333.out 0).trans rfl, (blk_cell BK333.out 1).trans rfl, (blk_cell BK333.out 2).trans rfl, (blk_cell BK333.out 3).trans rfl, (blk_cell BK333.out 4).trans rfl⟩ (fun hHeld => ?_)
                      clear hK K
                      refine norm_ (a' := ?_) ?_ ?_
                      rotate_left
                      ·show Act.put _ (some 29) _ = _
                       simp only [Act.put, List.setIfInBounds_toArray, List.set_cons_zero, List.set_cons_succ, i64_w, i32_w]
                       rfl
                      exact norm_ (by first | (simp only [putAll, Act.put, List.setIfInBounds_toArray, List.set_cons_zero, List.set_cons_succ]; done) | (simp only [putAll, Act.put, List.setIfInBounds_toArray, List.set_cons_zero, List.set_cons_succ]; rfl)) (hJ9_13 (v341, v347) _ ⟨hHeld, (by (with_reducible repeat (first | apply Kd.R_alloc | apply Kd.R_drewN | apply Kd.R_drew)); exact HO342.out), (by (with_reducible repeat (first | apply Kd.R_alloc | apply Kd.R_drewN | apply Kd.R_drew)); exact HO348.out), (by (with_reducible repeat (first | apply Kd.S_alloc | apply Kd.S_drewN | apply Kd.S_drew)); exact Kd.S_mono HO_3.out (fun _ hk => ⟨hk.1.1, ⟨hk.2, hk.1.2⟩⟩)), (by (with_reducible repeat (first | refine blk_drewN ?_ _ | refine blk_drew ?_ | refine blk_alloc ?_ _)); exact BK333.out), (by repeat (first | (with_reducible first | exact HB.out | apply below_alloc | apply pw_below_drewN | apply below_drew1 | refine below_set ?_ GE333.out) | exact HB.out))⟩)
                   ·skip
                    rintro v335 w15 ⟨hS_, h0_, h1_, h2_, h3_⟩
                    have n0_ : Aside0 (Kd.R (Kd.int .i32) 21 w15 w.heap.size (fun _ => True) v335 y334) := ⟨h0_⟩
                    have n1_ : Aside0 (Kd.S k30 30 w15 w.heap.size (fun k_ => some k_ ≠ (v335 : Value).ownBlock ∧ k_ ≠ gb333) (.slice Ao10 x3_1.length co10) x3_1) := ⟨h1_⟩
                    have n2_ : Aside0 (w15.heap[gb333]? = some (.cells #[.int .u8 ((rd_T30 l0 x4_1).f0), .int .i64 ((rd_T30 l0 x4_1).f1), .slice A332_2 ((rd_T30 l0 x4_1).f2).length c332_2, .slice A332_3 ((rd_T30 l0 x4_1).f3).length c332_3, .slice A332_4 ((rd_T30 l0 x4_1).f4).length c332_4] 30 (0, 0))) := ⟨h2_⟩
                    have n3_ : Aside0 (Below w.heap.size w w15) := ⟨h3_⟩
                    clear HO_3
                    clear BK333
                    clear HB
                    clear h0_ h1_ h2_ h3_
                    have HO336 := n0_
                    have HO_3 := n1_
                    have BK333 := n2_
                    have HB := n3_
                    clear n0_ n1_ n2_ n3_
                    have hHeld : w15.cell? ⟨gb333, 0, none⟩ = some (.int .u8 ((rd_T30 l0 x4_1).f0)) ∧ w15.cell? ⟨gb333, 1, none⟩ = some (.int .i64 ((rd_T30 l0 x4_1).f1)) ∧ w15.cell? ⟨gb333, 2, none⟩ = some (.slice A332_2 ((rd_T30 l0 x4_1).f2).length c332_2) ∧ w15.cell? ⟨gb333, 3, none⟩ = some (.slice A332_3 ((rd_T30 l0 x4_1).f3).length c332_3) ∧ w15.cell? ⟨gb333, 4, none⟩ = some (.slice A332_4 ((rd_T30 l0 x4_1).f4).length c332_4) := hS_
                    refine norm_ (a' := ?_) ?_ ?_
                    rotate_left
                    ·simp only [putAll, Act.put, List.setIfInBounds_toArray, List.set_cons_zero, List.set_cons_succ]
                     rfl
                    refine three_ (i := 8) (j := 9) (k := 13) (Ni := some 24) (Nj := some 25) (Nk := some 29) #[true, true, true, true, true, true, true, true, true, false, true, true, false, false, true, true, false, false, false, false, false] #[true, true, true, true, true, true, true, true, false, true, true, true, false, false, true, true, false, false, false, false, false] #[true, true, true, true, true, true, true, true, false, false, true, true, false, true, true, true, false, false, false, false, false] rfl rfl rfl rfl rfl rfl (three_of HT_.out (by kernel_rfl)) (by decide) (by decide) (by decide) (fun K hK => ?_) (fun K hK => ?_) (fun K hK => ?_)
                    ·skip
                     refine Kd.R_append_rows_step (Kd.int .i32) (w0 := w) w.heap.size (by rfl) (.tmp 21) (.tmp 23) 26 21 (.int .i32 0) 4 rfl Try.underlying26 info21 rfl (by decide) (by omega) v335 y334 ((rd_T30 l0 x4_1).f2) _ _ _ (fun _ => True) (fun _ => False) rfl rfl ?aO ?aR (fun _ _ h => h) (fun _ h => h.elim) ?aF ?aB ?aS ?aL ?_
                     (case aR => repeat (first | exact (Kd.C_below HR332_2.out HB.out) | (with_reducible refine Kd.C_alloc ?_ _) | (with_reducible refine Kd.C_drewN ?_ _) | (with_reducible refine Kd.C_drew ?_)))
                     (case aB => exact (by repeat (first | (with_reducible first | exact HB.out | apply below_alloc | apply pw_below_drewN | apply below_drew1 | refine below_set ?_ GE333.out) | exact HB.out)))
                     (case aF => exact (fun _ _ => trivial))
                     (case aO => exact (by (with_reducible repeat (first | apply Kd.R_alloc | apply Kd.R_drewN | apply Kd.R_drew)); exact HO336.out))
                     (case aS => exact (below_size (by repeat (first | (with_reducible first | exact HB.out | apply below_alloc | apply pw_below_drewN | apply below_drew1 | refine below_set ?_ GE333.out) | exact HB.out))))
                     (case aL => have := LMc4.out; omega)
                     intro v338 w16 ho hb hg hat
                     rw [← Ny337.out] at ho
                     have n0_ := Aside0.mk (Kd.S_after (ok := (fun k_ => k_ ≠ gb333)) (by (with_reducible repeat (first | apply Kd.S_alloc | apply Kd.S_drewN | apply Kd.S_drew)); exact Kd.S_mono HO_3.out (fun _ hk => ⟨hk.2, hk.1⟩)) hg hat)
                     have n1_ := Aside0.mk (blk_grown (g := gb333) (o := .cells #[.int .u8 ((rd_T30 l0 x4_1).f0), .int .i64 ((rd_T30 l0 x4_1).f1), .slice A332_2 ((rd_T30 l0 x4_1).f2).length c332_2, .slice A332_3 ((rd_T30 l0 x4_1).f3).length c332_3, .slice A332_4 ((rd_T30 l0 x4_1).f4).length c332_4] 30 (0, 0)) (by (with_reducible repeat (first | refine blk_drewN ?_ _ | refine blk_drew ?_ | refine blk_alloc ?_ _)); exact BK333.out) hg (Kd.R_ne HO336.out BK333.out (by decide)))
                     have n2_ := Aside0.mk (hb)
                     have n3_ := Aside0.mk (ho)
                     clear HO_3
                     clear BK333
                     clear HB
                     clear HO336
                     have HO_3 := n0_
                     have BK333 := n1_
                     have HB := n2_
                     have HO339 := n3_
                     clear n0_ n1_ n2_ n3_
                     clear ho hb hg hat
                     refine hK.out _ _ ⟨(blk_cell BK333.out 0).trans rfl, (blk_cell BK333.out 1).trans rfl, (blk_cell BK333.out 2).trans rfl, (blk_cell BK333.out 3).trans rfl, (blk_cell BK333.out 4).trans rfl⟩ (fun hHeld => ?_)
                     clear hK K
                     refine norm_ (a' := ?_) ?_ ?_
                     rotate_left
                     ·show Act.put _ (some 24) _ = _
                      simp only [Act.put, List.setIfInBounds_toArray, List.set_cons_zero, List.set_cons_succ, i64_w, i32_w]
                      rfl
                     exact norm_ (by first | (simp only [putAll, Act.put, List.setIfInBounds_toArray, List.set_cons_zero, List.set_cons_succ]; done) | (simp only [putAll, Act.put, List.setIfInBounds_toArray, List.set_cons_zero, List.set_cons_succ]; rfl)) (hJ5_8 (v335, v338) _ ⟨hHeld, (by (with_reducible repeat (first | apply Kd.R_alloc | apply Kd.R_drewN | apply Kd.R_drew)); exact HO339.out), (by (with_reducible repeat (first | apply Kd.S_alloc | apply Kd.S_drewN | apply Kd.S_drew)); exact Kd.S_mono HO_3.out (fun _ hk => ⟨hk.2, hk.1⟩)), (by (with_reducible repeat (first | refine blk_drewN ?_ _ | refine blk_drew ?_ | refine blk_alloc ?_ _)); exact BK333.out), (by repeat (first | (with_reducible first | exact HB.out | apply below_alloc | apply pw_below_drewN | apply below_drew1 | refine below_set ?_ GE333.out) | exact HB.out))⟩)
                    ·skip
                     refine Kd.R_lit_step k40 _ 40 ?hg (N := 25) ?hd (xs := ([] : List (S40))) (inner := []) (ok := fun _ => True) (okp := fun _ => True) ?hr ?hp (fun _ hk => hk) trivial (Below.refl _ _) (Nat.le_refl _) (by simp) ?_; (case hd => rfl); (case hg => rfl); (case hr => first | (go_simp; done) | (go_simp; rfl)); (case hp => exact (Reps.none _ _))
                     intro v341 w16 ho17 hb hg_ hnew_
                     clear hg_ hnew_
                     (first | rw [← Ny340.out] at ho17 | (simp only [Int.reduceToNat] at ho17; rw [← Ny340.out] at ho17))
                     have n0_ := Aside0.mk (Kd.S_elder' (by (with_reducible repeat (first | apply Kd.S_alloc | apply Kd.S_drewN | apply Kd.S_drew)); exact HO_3.out) (Kd.R_base ho17) hb)
                     have n1_ := Aside0.mk (Kd.R_below (by (with_reducible repeat (first | apply Kd.R_alloc | apply Kd.R_drewN | apply Kd.R_drew)); exact HO336.out) hb)
                     have n2_ := Aside0.mk (Kd.R_lower ho17 (below_size (by repeat (first | (with_reducible first | exact HB.out | apply below_alloc | apply pw_below_drewN | apply below_drew1 | refine below_set ?_ GE333.out) | exact HB.out))))
                     have n3_ := Aside0.mk (blk_below (g := gb333) (o := .cells #[.int .u8 ((rd_T30 l0 x4_1).f0), .int .i64 ((rd_T30 l0 x4_1).f1), .slice A332_2 ((rd_T30 l0 x4_1).f2).length c332_2, .slice A332_3 ((rd_T30 l0 x4_1).f3).length c332_3, .slice A332_4 ((rd_T30 l0 x4_1).f4).length c332_4] 30 (0, 0)) (by (with_reducible repeat (first | refine blk_drewN ?_ _ | refine blk_drew ?_ | refine blk_alloc ?_ _)); exact BK333.out) hb)
                     have n4_ := Aside0.mk (below_step (by repeat (first | (with_reducible first | exact HB.out | apply below_alloc | apply pw_below_drewN | apply below_drew1 | refine below_set ?_ GE333.out) | exact HB.out)) hb)
                     clear HO_3
                     clear HO336
                     clear BK333
                     clear HB
                     have HO_3 := n0_
                     have HO336 := n1_
                     have HO342 := n2_
                     have BK333 := n3_
                     have HB := n4_
                     clear n0_ n1_ n2_ n3_ n4_
                     clear hb ho17
                     refine hK.out _ _ ⟨(blk_cell BK333.out 0).trans rfl, (blk_cell BK333.out 1).trans rfl, (blk_cell BK333.out 2).trans rfl, (blk_cell BK333.out 3).trans rfl, (blk_cell BK333.out 4).trans rfl⟩ (fun hHeld => ?_)
                     clear hK K
                     refine norm_ (a' := ?_) ?_ ?_
                     rotate_left
                     ·show Act.put _ (some 25) _ = _
                      simp only [Act.put, List.setIfInBounds_toArray, List.set_cons_zero, List.set_cons_succ, i64_w, i32_w]
                      rfl
                     exact norm_ (by first | (simp only [putAll, Act.put, List.setIfInBounds_toArray, List.set_cons_zero, List.set_cons_succ]; done) | (simp only [putAll, Act.put, List.setIfInBounds_toArray, List.set_cons_zero, List.set_cons_succ]; rfl)) (hJ5_9 (v335, v341) _ ⟨hHeld, (by (with_reducible repeat (first | apply Kd.R_alloc | apply Kd.R_drewN | apply Kd.R_drew)); exact HO336.out), (by (with_reducible repeat (first | apply Kd.R_alloc | apply Kd.R_drewN | apply Kd.R_drew)); exact HO342.out), (by (with_reducible repeat (first | apply Kd.S_alloc | apply Kd.S_drewN | apply Kd.S_drew)); exact Kd.S_mono HO_3.out (fun _ hk => ⟨hk.1.1, ⟨hk.2, hk.1.2⟩⟩)), (by (with_reducible repeat (first | refine blk_drewN ?_ _ | refine blk_drew ?_ | refine blk_alloc ?_ _)); exact BK333.out), (by repeat (first | (with_reducible first | exact HB.out | apply below_alloc | apply pw_below_drewN | apply below_drew1 | refine below_set ?_ GE333.out) | exact HB.out))⟩)
                    ·skip
                     refine Kd.R_lit_step k42 _ 42 ?hg (N := 29) ?hd (xs := ([] : List (S42))) (inner := []) (ok := fun _ => True) (okp := fun _ => True) ?hr ?hp (fun _ hk => hk) trivial (Below.refl _ _) (Nat.le_refl _) (by simp) ?_; (case hd => rfl); (case hg => rfl); (case hr => first | (go_simp; done) | (go_simp; rfl)); (case hp => exact (Reps.none _ _))
                     intro v347 w16 ho17 hb hg_ hnew_
                     clear hg_ hnew_
                     (first | rw [← Ny346.out] at ho17 | (simp only [Int.reduceToNat] at ho17; rw [← Ny346.out] at ho17))
                     have n0_ := Aside0.mk (Kd.S_elder' (by (with_reducible repeat (first | apply Kd.S_alloc | apply Kd.S_drewN | apply Kd.S_drew)); exact HO_3.out) (Kd.R_base ho17) hb)
                     have n1_ := Aside0.mk (Kd.R_below (by (with_reducible repeat (first | apply Kd.R_alloc | apply Kd.R_drewN | apply Kd.R_drew)); exact HO336.out) hb)
                     have n2_ := Aside0.mk (Kd.R_lower ho17 (below_size (by repeat (first | (with_reducible first | exact HB.out | apply below_alloc | apply pw_below_drewN | apply below_drew1 | refine below_set ?_ GE333.out) | exact HB.out))))
                     have n3_ := Aside0.mk (blk_below (g := gb333) (o := .cells #[.int .u8 ((rd_T30 l0 x4_1).f0), .int .i64 ((rd_T30 l0 x4_1).f1), .slice A332_2 ((rd_T30 l0 x4_1).f2).length c332_2, .slice A332_3 ((rd_T30 l0 x4_1).f3).length c332_3, .slice A332_4 ((rd_T30 l0 x4_1).f4).length c332_4] 30 (0, 0)) (by (with_reducible repeat (first | refine blk_drewN ?_ _ | refine blk_drew ?_ | refine blk_alloc ?_ _)); exact BK333.out) hb)
                     have n4_ := Aside0.mk (below_step (by repeat (first | (with_reducible first | exact HB.out | apply below_alloc | apply pw_below_drewN | apply below_drew1 | refine below_set ?_ GE333.out) | exact HB.out)) hb)
                     clear HO_3
                     clear HO336
                     clear BK333
                     clear HB
                     have HO_3 := n0_
                     have HO336 := n1_
                     have HO348 := n2_
                     have BK333 := n3_
                     have HB := n4_
                     clear n0_ n1_ n2_ n3_ n4_
                     clear hb ho17
                     refine hK.out _ _ ⟨(blk_cell BK333.out 0).trans rfl, (blk_cell BK333.out 1).trans rfl, (blk_cell BK333.out 2).trans rfl, (blk_cell BK333.out 3).trans rfl, (blk_cell BK333.out 4).trans rfl⟩ (fun hHeld => ?_)
                     clear hK K
                     refine norm_ (a' := ?_) ?_ ?_
                     rotate_left
                     ·show Act.put _ (some 29) _ = _
                      simp only [Act.put, List.setIfInBounds_toArray, List.set_cons_zero, List.set_cons_succ, i64_w, i32_w]
                      rfl
                     exact norm_ (by first | (simp only [putAll, Act.put, List.setIfInBounds_toArray, List.set_cons_zero, List.set_cons_succ]; done) | (simp only [putAll, Act.put, List.setIfInBounds_toArray, List.set_cons_zero, List.set_cons_succ]; rfl)) (hJ5_13 (v335, v347) _ ⟨hHeld, (by (with_reducible repeat (first | apply Kd.R_alloc | apply Kd.R_drewN | apply Kd.R_drew)); exact HO336.out), (by (with_reducible repeat (first | apply Kd.R_alloc | apply Kd.R_drewN | apply Kd.R_drew)); exact HO348.out), (by (with_reducible repeat (first | apply Kd.S_alloc | apply Kd.S_drewN | apply Kd.S_drew)); exact Kd.S_mono HO_3.out (fun _ hk => ⟨hk.1.1, ⟨hk.2, hk.1.2⟩⟩)), (by (with_reducible repeat (first | refine blk_drewN ?_ _ | refine blk_drew ?_ | refine blk_alloc ?_ _)); exact BK333.out), (by repeat (first | (with_reducible first | exact HB.out | apply below_alloc | apply pw_below_drewN | apply below_drew1 | refine below_set ?_ GE333.out) | exact HB.out))⟩)
                  ·skip
                   rintro ⟨v341, v347⟩ w17 ⟨hS_, h0_, h1_, h2_, h3_, h4_⟩
                   have n0_ : Aside0 (Kd.R k40 40 w17 w.heap.size (fun _ => True) v341 y340) := ⟨h0_⟩
                   have n1_ : Aside0 (Kd.R k42 42 w17 w.heap.size (fun _ => True) v347 y346) := ⟨h1_⟩
                   have n2_ : Aside0 (Kd.S k30 30 w17 w.heap.size (fun k_ => some k_ ≠ (v341 : Value).ownBlock ∧ some k_ ≠ (v347 : Value).ownBlock ∧ k_ ≠ gb333) (.slice Ao10 x3_1.length co10) x3_1) := ⟨h2_⟩
                   have n3_ : Aside0 (w17.heap[gb333]? = some (.cells #[.int .u8 ((rd_T30 l0 x4_1).f0), .int .i64 ((rd_T30 l0 x4_1).f1), .slice A332_2 ((rd_T30 l0 x4_1).f2).length c332_2, .slice A332_3 ((rd_T30 l0 x4_1).f3).length c332_3, .slice A332_4 ((rd_T30 l0 x4_1).f4).length c332_4] 30 (0, 0))) := ⟨h3_⟩
                   have n4_ : Aside0 (Below w.heap.size w w17) := ⟨h4_⟩
                   clear HO_3
                   clear BK333
                   clear HB
                   clear h0_ h1_ h2_ h3_ h4_
                   have HO342 := n0_
                   have HO348 := n1_
                   have HO_3 := n2_
                   have BK333 := n3_
                   have HB := n4_
                   clear n0_ n1_ n2_ n3_ n4_
                   have hHeld : w17.cell? ⟨gb333, 0, none⟩ = some (.int .u8 ((rd_T30 l0 x4_1).f0)) ∧ w17.cell? ⟨gb333, 1, none⟩ = some (.int .i64 ((rd_T30 l0 x4_1).f1)) ∧ w17.cell? ⟨gb333, 2, none⟩ = some (.slice A332_2 ((rd_T30 l0 x4_1).f2).length c332_2) ∧ w17.cell? ⟨gb333, 3, none⟩ = some (.slice A332_3 ((rd_T30 l0 x4_1).f3).length c332_3) ∧ w17.cell? ⟨gb333, 4, none⟩ = some (.slice A332_4 ((rd_T30 l0 x4_1).f4).length c332_4) := hS_
                   refine norm_ (a' := ?_) ?_ ?_
                   rotate_left
                   ·simp only [putAll, Act.put, List.setIfInBounds_toArray, List.set_cons_zero, List.set_cons_succ]
                    rfl
                   refine one_ (i := 5) (N := some 21) #[true, true, true, true, true, true, true, true, false, true, true, true, false, true, true, true, false, false, false, false, false] rfl rfl (one_of HT_.out (by kernel_rfl)) (by decide) (fun K hK => ?_)
                   refine Kd.R_lit_step (Kd.int .i32) _ 21 ?hg (N := 21) ?hd (xs := ([] : List Int)) (inner := []) (ok := fun _ => True) (okp := fun _ => True) ?hr ?hp (fun _ hk => hk) trivial (Below.refl _ _) (Nat.le_refl _) (by simp) ?_; (case hd => rfl); (case hg => rfl); (case hr => first | (go_simp; done) | (go_simp; rfl)); (case hp => exact (Reps.none _ _))
                   intro v335 w18 ho19 hb hg_ hnew_
                   clear hg_ hnew_
                   (first | rw [← Ny334.out] at ho19 | (simp only [Int.reduceToNat] at ho19; rw [← Ny334.out] at ho19))
                   have n0_ := Aside0.mk (Kd.S_elder' (by (with_reducible repeat (first | apply Kd.S_alloc | apply Kd.S_drewN | apply Kd.S_drew)); exact HO_3.out) (Kd.R_base ho19) hb)
                   have n1_ := Aside0.mk (Kd.R_below (by (with_reducible repeat (first | apply Kd.R_alloc | apply Kd.R_drewN | apply Kd.R_drew)); exact HO342.out) hb)
                   have n2_ := Aside0.mk (Kd.R_below (by (with_reducible repeat (first | apply Kd.R_alloc | apply Kd.R_drewN | apply Kd.R_drew)); exact HO348.out) hb)
                   have n3_ := Aside0.mk (Kd.R_lower ho19 (below_size (by repeat (first | (with_reducible first | exact HB.out | apply below_alloc | apply pw_below_drewN | apply below_drew1 | refine below_set ?_ GE333.out) | exact HB.out))))
                   have n4_ := Aside0.mk (blk_below (g := gb333) (o := .cells #[.int .u8 ((rd_T30 l0 x4_1).f0), .int .i64 ((rd_T30 l0 x4_1).f1), .slice A332_2 ((rd_T30 l0 x4_1).f2).length c332_2, .slice A332_3 ((rd_T30 l0 x4_1).f3).length c332_3, .slice A332_4 ((rd_T30 l0 x4_1).f4).length c332_4] 30 (0, 0)) (by (with_reducible repeat (first | refine blk_drewN ?_ _ | refine blk_drew ?_ | refine blk_alloc ?_ _)); exact BK333.out) hb)
                   have n5_ := Aside0.mk (below_step (by repeat (first | (with_reducible first | exact HB.out | apply below_alloc | apply pw_below_drewN | apply below_drew1 | refine below_set ?_ GE333.out) | exact HB.out)) hb)
                   clear HO_3
                   clear HO342
                   clear HO348
                   clear BK333
                   clear HB
                   have HO_3 := n0_
                   have HO342 := n1_
                   have HO348 := n2_
                   have HO336 := n3_
                   have BK333 := n4_
                   have HB := n5_
                   clear n0_ n1_ n2_ n3_ n4_ n5_
                   clear hb ho19
                   refine hK.out _ _ ⟨(blk_cell BK333.out 0).trans rfl, (blk_cell BK333.out 1).trans rfl, (blk_cell BK333.out 2).trans rfl, (blk_cell BK333.out 3).trans rfl, (blk_cell BK333.out 4).trans rfl⟩ (fun hHeld => ?_)
                   clear hK K
                   refine norm_ (a' := ?_) ?_ ?_
                   rotate_left
                   ·show Act.put _ (some 21) _ = _
                    simp only [Act.put, List.setIfInBounds_toArray, List.set_cons_zero, List.set_cons_succ, i64_w, i32_w]
                    rfl
                   exact norm_ (by first | (simp only [putAll, Act.put, List.setIfInBounds_toArray, List.set_cons_zero, List.set_cons_succ]; done) | (simp only [putAll, Act.put, List.setIfInBounds_toArray, List.set_cons_zero, List.set_cons_succ]; rfl)) (hJ5_9_13 (v335, v341, v347) _ ⟨hHeld, (by (with_reducible repeat (first | apply Kd.R_alloc | apply Kd.R_drewN | apply Kd.R_drew)); exact HO336.out), (by (with_reducible repeat (first | apply Kd.R_alloc | apply Kd.R_drewN | apply Kd.R_drew)); exact HO342.out), (by (with_reducible repeat (first | apply Kd.R_alloc | apply Kd.R_drewN | apply Kd.R_drew)); exact HO348.out), (by (with_reducible repeat (first | apply Kd.S_alloc | apply Kd.S_drewN | apply Kd.S_drew)); exact Kd.S_mono HO_3.out (fun _ hk => ⟨hk.2, ⟨hk.1.1, ⟨hk.1.2.1, hk.1.2.2⟩⟩⟩)), (by (with_reducible repeat (first | refine blk_drewN ?_ _ | refine blk_drew ?_ | refine blk_alloc ?_ _)); exact BK333.out), (by repeat (first | (with_reducible first | exact HB.out | apply below_alloc | apply pw_below_drewN | apply below_drew1 | refine below_set ?_ GE333.out) | exact HB.out))⟩)
                 ·skip
                  rintro ⟨v335, v347⟩ w17 ⟨hS_, h0_, h1_, h2_, h3_, h4_⟩
                  have n0_ : Aside0 (Kd.R (Kd.int .i32) 21 w17 w.heap.size (fun _ => True) v335 y334) := ⟨h0_⟩
                  have n1_ : Aside0 (Kd.R k42 42 w17 w.heap.size (fun _ => True) v347 y346) := ⟨h1_⟩
                  have n2_ : Aside0 (Kd.S k30 30 w17 w.heap.size (fun k_ => some k_ ≠ (v335 : Value).ownBlock ∧ some k_ ≠ (v347 : Value).ownBlock ∧ k_ ≠ gb333) (.slice Ao10 x3_1.length co10) x3_1) := ⟨h2_⟩
                  have n3_ : Aside0 (w17.heap[gb333]? = some (.cells #[.int .u8 ((rd_T30 l0 x4_1).f0), .int .i64 ((rd_T30 l0 x4_1).f1), .slice A332_2 ((rd_T30 l0 x4_1).f2).length c332_2, .slice A332_3 ((rd_T30 l0 x4_1).f3).length c332_3, .slice A332_4 ((rd_T30 l0 x4_1).f4).length c332_4] 30 (0, 0))) := ⟨h3_⟩
                  have n4_ : Aside0 (Below w.heap.size w w17) := ⟨h4_⟩
                  clear HO_3
                  clear BK333
                  clear HB
                  clear h0_ h1_ h2_ h3_ h4_
                  have HO336 := n0_
                  have HO348 := n1_
                  have HO_3 := n2_
                  have BK333 := n3_
                  have HB := n4_
                  clear n0_ n1_ n2_ n3_ n4_
                  have hHeld : w17.cell? ⟨gb333, 0, none⟩ = some (.int .u8 ((rd_T30 l0 x4_1).f0)) ∧ w17.cell? ⟨gb333, 1, none⟩ = some (.int .i64 ((rd_T30 l0 x4_1).f1)) ∧ w17.cell? ⟨gb333, 2, none⟩ = some (.slice A332_2 ((rd_T30 l0 x4_1).f2).length c332_2) ∧ w17.cell? ⟨gb333, 3, none⟩ = some (.slice A332_3 ((rd_T30 l0 x4_1).f3).length c332_3) ∧ w17.cell? ⟨gb333, 4, none⟩ = some (.slice A332_4 ((rd_T30 l0 x4_1).f4).length c332_4) := hS_
                  refine norm_ (a' := ?_) ?_ ?_
                  rotate_left
                  ·simp only [putAll, Act.put, List.setIfInBounds_toArray, List.set_cons_zero, List.set_cons_succ]
                   rfl
                  refine two_ (i := 8) (j := 9) (Ni := some 24) (Nj := some 25) #[true, true, true, true, true, true, true, true, true, false, true, true, false, true, true, true, false, false, false, false, false] #[true, true, true, true, true, true, true, true, false, true, true, true, false, true, true, true, false, false, false, false, false] rfl rfl rfl rfl (two_of HT_.out (by kernel_rfl)) (by decide) (by decide) (fun K hK => ?_) (fun K hK => ?_)
                  ·skip
                   refine Kd.R_append_rows_step (Kd.int .i32) (w0 := w) w.heap.size (by rfl) (.tmp 21) (.tmp 23) 26 21 (.int .i32 0) 4 rfl Try.underlying26 info21 rfl (by decide) (by omega) v335 y334 ((rd_T30 l0 x4_1).f2) _ _ _ (fun _ => True) (fun _ => False) rfl rfl ?aO ?aR (fun _ _ h => h) (fun _ h => h.elim) ?aF ?aB ?aS ?aL ?_
                   (case aR => repeat (first | exact (Kd.C_below HR332_2.out HB.out) | (with_reducible refine Kd.C_alloc ?_ _) | (with_reducible refine Kd.C_drewN ?_ _) | (with_reducible refine Kd.C_drew ?_)))
                   (case aB => exact (by repeat (first | (with_reducible first | exact HB.out | apply below_alloc | apply pw_below_drewN | apply below_drew1 | refine below_set ?_ GE333.out) | exact HB.out)))
                   (case aF => exact (fun _ _ => trivial))
                   (case aO => exact (by (with_reducible repeat (first | apply Kd.R_alloc | apply Kd.R_drewN | apply Kd.R_drew)); exact HO336.out))
                   (case aS => exact (below_size (by repeat (first | (with_reducible first | exact HB.out | apply below_alloc | apply pw_below_drewN | apply below_drew1 | refine below_set ?_ GE333.out) | exact HB.out))))
                   (case aL => have := LMc4.out; omega)
                   intro v338 w18 ho hb hg hat
                   rw [← Ny337.out] at ho
                   have n0_ := Aside0.mk (Kd.S_after (ok := (fun k_ => some k_ ≠ (v347 : Value).ownBlock ∧ k_ ≠ gb333)) (by (with_reducible repeat (first | apply Kd.S_alloc | apply Kd.S_drewN | apply Kd.S_drew)); exact Kd.S_mono HO_3.out (fun _ hk => ⟨⟨hk.2.1, hk.2.2⟩, hk.1⟩)) hg hat)
                   have n1_ := Aside0.mk (blk_grown (g := gb333) (o := .cells #[.int .u8 ((rd_T30 l0 x4_1).f0), .int .i64 ((rd_T30 l0 x4_1).f1), .slice A332_2 ((rd_T30 l0 x4_1).f2).length c332_2, .slice A332_3 ((rd_T30 l0 x4_1).f3).length c332_3, .slice A332_4 ((rd_T30 l0 x4_1).f4).length c332_4] 30 (0, 0)) (by (with_reducible repeat (first | refine blk_drewN ?_ _ | refine blk_drew ?_ | refine blk_alloc ?_ _)); exact BK333.out) hg (Kd.R_ne HO336.out BK333.out (by decide)))
                   have n2_ := Aside0.mk (Kd.R_over' (by (with_reducible repeat (first | apply Kd.R_alloc | apply Kd.R_drewN | apply Kd.R_drew)); exact HO348.out) (Kd.R_typed (by (with_reducible repeat (first | apply Kd.R_alloc | apply Kd.R_drewN | apply Kd.R_drew)); exact HO336.out)) (by decide) hg)
                   have n3_ := Aside0.mk (hb)
                   have n4_ := Aside0.mk (ho)
                   clear HO_3
                   clear BK333
                   clear HO348
                   clear HB
                   clear HO336
                   have HO_3 := n0_
                   have BK333 := n1_
                   have HO348 := n2_
                   have HB := n3_
                   have HO339 := n4_
                   clear n0_ n1_ n2_ n3_ n4_
                   clear ho hb hg hat
                   refine hK.out _ _ ⟨(blk_cell BK333.out 0).trans rfl, (blk_cell BK333.out 1).trans rfl, (blk_cell BK333.out 2).trans rfl, (blk_cell BK333.out 3).trans rfl, (blk_cell BK333.out 4).trans rfl⟩ (fun hHeld => ?_)
                   clear hK K
                   refine norm_ (a' := ?_) ?_ ?_
                   rotate_left
                   ·show Act.put _ (some 24) _ = _
                    simp only [Act.put, List.setIfInBounds_toArray, List.set_cons_zero, List.set_cons_succ, i64_w, i32_w]
                    rfl
                   exact norm_ (by first | (simp only [putAll, Act.put, List.setIfInBounds_toArray, List.set_cons_zero, List.set_cons_succ]; done) | (simp only [putAll, Act.put, List.setIfInBounds_toArray, List.set_cons_zero, List.set_cons_succ]; rfl)) (hJ5_8_13 (v335, v338, v347) _ ⟨hHeld, (by (with_reducible repeat (first | apply Kd.R_alloc | apply Kd.R_drewN | apply Kd.R_drew)); exact HO339.out), (by (with_reducible repeat (first | apply Kd.R_alloc | apply Kd.R_drewN | apply Kd.R_drew)); exact HO348.out), (by (with_reducible repeat (first | apply Kd.S_alloc | apply Kd.S_drewN | apply Kd.S_drew)); exact Kd.S_mono HO_3.out (fun _ hk => ⟨hk.2, ⟨hk.1.1, hk.1.2⟩⟩)), (by (with_reducible repeat (first | refine blk_drewN ?_ _ | refine blk_drew ?_ | refine blk_alloc ?_ _)); exact BK333.out), (by repeat (first | (with_reducible first | exact HB.out | apply below_alloc | apply pw_below_drewN | apply below_drew1 | refine below_set ?_ GE333.out) | exact HB.out))⟩)
                  ·skip
                   refine Kd.R_lit_step k40 _ 40 ?hg (N := 25) ?hd (xs := ([] : List (S40))) (inner := []) (ok := fun _ => True) (okp := fun _ => True) ?hr ?hp (fun _ hk => hk) trivial (Below.refl _ _) (Nat.le_refl _) (by simp) ?_; (case hd => rfl); (case hg => rfl); (case hr => first | (go_simp; done) | (go_simp; rfl)); (case hp => exact (Reps.none _ _))
                   intro v341 w18 ho19 hb hg_ hnew_
                   clear hg_ hnew_
                   (first | rw [← Ny340.out] at ho19 | (simp only [Int.reduceToNat] at ho19; rw [← Ny340.out] at ho19))
                   have n0_ := Aside0.mk (Kd.S_elder' (by (with_reducible repeat (first | apply Kd.S_alloc | apply Kd.S_drewN | apply Kd.S_drew)); exact HO_3.out) (Kd.R_base ho19) hb)
                   have n1_ := Aside0.mk (Kd.R_below (by (with_reducible repeat (first | apply Kd.R_alloc | apply Kd.R_drewN | apply Kd.R_drew)); exact HO336.out) hb)
                   have n2_ := Aside0.mk (Kd.R_below (by (with_reducible repeat (first | apply Kd.R_alloc | apply Kd.R_drewN | apply Kd.R_drew)); exact HO348.out) hb)
                   have n3_ := Aside0.mk (Kd.R_lower ho19 (below_size (by repeat (first | (with_reducible first | exact HB.out | apply below_alloc | apply pw_below_drewN | apply below_drew1 | refine below_set ?_ GE333.out) | exact HB.out))))
                   have n4_ := Aside0.mk (blk_below (g := gb333) (o := .cells #[.int .u8 ((rd_T30 l0 x4_1).f0), .int .i64 ((rd_T30 l0 x4_1).f1), .slice A332_2 ((rd_T30 l0 x4_1).f2).length c332_2, .slice A332_3 ((rd_T30 l0 x4_1).f3).length c332_3, .slice A332_4 ((rd_T30 l0 x4_1).f4).length c332_4] 30 (0, 0)) (by (with_reducible repeat (first | refine blk_drewN ?_ _ | refine blk_drew ?_ | refine blk_alloc ?_ _)); exact BK333.out) hb)
                   have n5_ := Aside0.mk (below_step (by repeat (first | (with_reducible first | exact HB.out | apply below_alloc | apply pw_below_drewN | apply below_drew1 | refine below_set ?_ GE333.out) | exact HB.out)) hb)
                   clear HO_3
                   clear HO336
                   clear HO348
                   clear BK333
                   clear HB
                   have HO_3 := n0_
                   have HO336 := n1_
                   have HO348 := n2_
                   have HO342 := n3_
                   have BK333 := n4_
                   have HB := n5_
                   clear n0_ n1_ n2_ n3_ n4_ n5_
                   clear hb ho19
                   refine hK.out _ _ ⟨(blk_cell BK333.out 0).trans rfl, (blk_cell BK333.out 1).trans rfl, (blk_cell BK333.out 2).trans rfl, (blk_cell BK333.out 3).trans rfl, (blk_cell BK333.out 4).trans rfl⟩ (fun hHeld => ?_)
                   clear hK K
                   refine norm_ (a' := ?_) ?_ ?_
                   rotate_left
                   ·show Act.put _ (some 25) _ = _
                    simp only [Act.put, List.setIfInBounds_toArray, List.set_cons_zero, List.set_cons_succ, i64_w, i32_w]
                    rfl
                   exact norm_ (by first | (simp only [putAll, Act.put, List.setIfInBounds_toArray, List.set_cons_zero, List.set_cons_succ]; done) | (simp only [putAll, Act.put, List.setIfInBounds_toArray, List.set_cons_zero, List.set_cons_succ]; rfl)) (hJ5_9_13 (v335, v341, v347) _ ⟨hHeld, (by (with_reducible repeat (first | apply Kd.R_alloc | apply Kd.R_drewN | apply Kd.R_drew)); exact HO336.out), (by (with_reducible repeat (first | apply Kd.R_alloc | apply Kd.R_drewN | apply Kd.R_drew)); exact HO342.out), (by (with_reducible repeat (first | apply Kd.R_alloc | apply Kd.R_drewN | apply Kd.R_drew)); exact HO348.out), (by (with_reducible repeat (first | apply Kd.S_alloc | apply Kd.S_drewN | apply Kd.S_drew)); exact Kd.S_mono HO_3.out (fun _ hk => ⟨hk.1.1, ⟨hk.2, ⟨hk.1.2.1, hk.1.2.2⟩⟩⟩)), (by (with_reducible repeat (first | refine blk_drewN ?_ _ | refine blk_drew ?_ | refine blk_alloc ?_ _)); exact BK333.out), (by repeat (first | (with_reducible first | exact HB.out | apply below_alloc | apply pw_below_drewN | apply below_drew1 | refine below_set ?_ GE333.out) | exact HB.out))⟩)
                ·skip
                 rintro ⟨v335, v341⟩ w17 ⟨hS_, h0_, h1_, h2_, h3_, h4_⟩
                 have n0_ : Aside0 (Kd.R (Kd.int .i32) 21 w17 w.heap.size (fun _ => True) v335 y334) := ⟨h0_⟩
                 have n1_ : Aside0 (Kd.R k40 40 w17 w.heap.size (fun _ => True) v341 y340) := ⟨h1_⟩
                 have n2_ : Aside0 (Kd.S k30 30 w17 w.heap.size (fun k_ => some k_ ≠ (v335 : Value).ownBlock ∧ some k_ ≠ (v341 : Value).ownBlock ∧ k_ ≠ gb333) (.slice Ao10 x3_1.length co10) x3_1) := ⟨h2_⟩
                 have n3_ : Aside0 (w17.heap[gb333]? = some (.cells #[.int .u8 ((rd_T30 l0 x4_1).f0), .int .i64 ((rd_T30 l0 x4_1).f1), .slice A332_2 ((rd_T30 l0 x4_1).f2).length c332_2, .slice A332_3 ((rd_T30 l0 x4_1).f3).length c332_3, .slice A332_4 ((rd_T30 l0 x4_1).f4).length c332_4] 30 (0, 0))) := ⟨h3_⟩
                 have n4_ : Aside0 (Below w.heap.size w w17) := ⟨h4_⟩
                 clear HO_3
                 clear BK333
                 clear HB
                 clear h0_ h1_ h2_ h3_ h4_
                 have HO336 := n0_
                 have HO342 := n1_
                 have HO_3 := n2_
                 have BK333 := n3_
                 have HB := n4_
                 clear n0_ n1_ n2_ n3_ n4_
                 have hHeld : w17.cell? ⟨gb333, 0, none⟩ = some (.int .u8 ((rd_T30 l0 x4_1).f0)) ∧ w17.cell? ⟨gb333, 1, none⟩ = some (.int .i64 ((rd_T30 l0 x4_1).f1)) ∧ w17.cell? ⟨gb333, 2, none⟩ = some (.slice A332_2 ((rd_T30 l0 x4_1).f2).length c332_2) ∧ w17.cell? ⟨gb333, 3, none⟩ = some (.slice A332_3 ((rd_T30 l0 x4_1).f3).length c332_3) ∧ w17.cell? ⟨gb333, 4, none⟩ = some (.slice A332_4 ((rd_T30 l0 x4_1).f4).length c332_4) := hS_
                 refine norm_ (a' := ?_) ?_ ?_
                 rotate_left
                 ·simp only [putAll, Act.put, List.setIfInBounds_toArray, List.set_cons_zero, List.set_cons_succ]
                  rfl
                 refine two_ (i := 8) (j := 13) (Ni := some 24) (Nj := some 29) #[true, true, true, true, true, true, true, true, true, true, true, true, false, false, true, true, false, false, false, false, false] #[true, true, true, true, true, true, true, true, false, true, true, true, false, true, true, true, false, false, false, false, false] rfl rfl rfl rfl (two_of HT_.out (by kernel_rfl)) (by decide) (by decide) (fun K hK => ?_) (fun K hK => ?_)
                 ·skip
                  refine Kd.R_append_rows_step (Kd.int .i32) (w0 := w) w.heap.size (by rfl) (.tmp 21) (.tmp 23) 26 21 (.int .i32 0) 4 rfl Try.underlying26 info21 rfl (by decide) (by omega) v335 y334 ((rd_T30 l0 x4_1).f2) _ _ _ (fun _ => True) (fun _ => False) rfl rfl ?aO ?aR (fun _ _ h => h) (fun _ h => h.elim) ?aF ?aB ?aS ?aL ?_
                  (case aR => repeat (first | exact (Kd.C_below HR332_2.out HB.out) | (with_reducible refine Kd.C_alloc ?_ _) | (with_reducible refine Kd.C_drewN ?_ _) | (with_reducible refine Kd.C_drew ?_)))
                  (case aB => exact (by repeat (first | (with_reducible first | exact HB.out | apply below_alloc | apply pw_below_drewN | apply below_drew1 | refine below_set ?_ GE333.out) | exact HB.out)))
                  (case aF => exact (fun _ _ => trivial))
                  (case aO => exact (by (with_reducible repeat (first | apply Kd.R_alloc | apply Kd.R_drewN | apply Kd.R_drew)); exact HO336.out))
                  (case aS => exact (below_size (by repeat (first | (with_reducible first | exact HB.out | apply below_alloc | apply pw_below_drewN | apply below_drew1 | refine below_set ?_ GE333.out) | exact HB.out))))
                  (case aL => have := LMc4.out; omega)
                  intro v338 w18 ho hb hg hat
                  rw [← Ny337.out] at ho
                  have n0_ := Aside0.mk (Kd.S_after (ok := (fun k_ => some k_ ≠ (v341 : Value).ownBlock ∧ k_ ≠ gb333)) (by (with_reducible repeat (first | apply Kd.S_alloc | apply Kd.S_drewN | apply Kd.S_drew)); exact Kd.S_mono HO_3.out (fun _ hk => ⟨⟨hk.2.1, hk.2.2⟩, hk.1⟩)) hg hat)
                  have n1_ := Aside0.mk (blk_grown (g := gb333) (o := .cells #[.int .u8 ((rd_T30 l0 x4_1).f0), .int .i64 ((rd_T30 l0 x4_1).f1), .slice A332_2 ((rd_T30 l0 x4_1).f2).length c332_2, .slice A332_3 ((rd_T30 l0 x4_1).f3).length c332_3, .slice A332_4 ((rd_T30 l0 x4_1).f4).length c332_4] 30 (0, 0)) (by (with_reducible repeat (first | refine blk_drewN ?_ _ | refine blk_drew ?_ | refine blk_alloc ?_ _)); exact BK333.out) hg (Kd.R_ne HO336.out BK333.out (by decide)))
                  have n2_ := Aside0.mk (Kd.R_over' (by (with_reducible repeat (first | apply Kd.R_alloc | apply Kd.R_drewN | apply Kd.R_drew)); exact HO342.out) (Kd.R_typed (by (with_reducible repeat (first | apply Kd.R_alloc | apply Kd.R_drewN | apply Kd.R_drew)); exact HO336.out)) (by decide) hg)
                  have n3_ := Aside0.mk (hb)
                  have n4_ := Aside0.mk (ho)
                  clear HO_3
                  clear BK333
                  clear HO342
                  clear HB
                  clear HO336
                  have HO_3 := n0_
                  have BK333 := n1_
                  have HO342 := n2_
                  have HB := n3_
                  have HO339 := n4_
                  clear n0_ n1_ n2_ n3_ n4_
                  clear ho hb hg hat
                  refine hK.out _ _ ⟨(blk_cell BK333.out 0).trans rfl, (blk_cell BK333.out 1).trans rfl, (blk_cell BK333.out 2).trans rfl, (blk_cell BK333.out 3).trans rfl, (blk_cell BK333.out 4).trans rfl⟩ (fun hHeld => ?_)
                  clear hK K
                  refine norm_ (a' := ?_) ?_ ?_
                  rotate_left
                  ·show Act.put _ (some 24) _ = _
                   simp only [Act.put, List.setIfInBounds_toArray, List.set_cons_zero, List.set_cons_succ, i64_w, i32_w]
                   rfl
                  exact norm_ (by first | (simp only [putAll, Act.put, List.setIfInBounds_toArray, List.set_cons_zero, List.set_cons_succ]; done) | (simp only [putAll, Act.put, List.setIfInBounds_toArray, List.set_cons_zero, List.set_cons_succ]; rfl)) (hJ5_8_9 (v335, v338, v341) _ ⟨hHeld, (by (with_reducible repeat (first | apply Kd.R_alloc | apply Kd.R_drewN | apply Kd.R_drew)); exact HO339.out), (by (with_reducible repeat (first | apply Kd.R_alloc | apply Kd.R_drewN | apply Kd.R_drew)); exact HO342.out), (by (with_reducible repeat (first | apply Kd.S_alloc | apply Kd.S_drewN | apply Kd.S_drew)); exact Kd.S_mono HO_3.out (fun _ hk => ⟨hk.2, ⟨hk.1.1, hk.1.2⟩⟩)), (by (with_reducible repeat (first | refine blk_drewN ?_ _ | refine blk_drew ?_ | refine blk_alloc ?_ _)); exact BK333.out), (by repeat (first | (with_reducible first | exact HB.out | apply below_alloc | apply pw_below_drewN | apply below_drew1 | refine below_set ?_ GE333.out) | exact HB.out))⟩)
                 ·skip
                  refine Kd.R_lit_step k42 _ 42 ?hg (N := 29) ?hd (xs := ([] : List (S42))) (inner := []) (ok := fun _ => True) (okp := fun _ => True) ?hr ?hp (fun _ hk => hk) trivial (Below.refl _ _) (Nat.le_refl _) (by simp) ?_; (case hd => rfl); (case hg => rfl); (case hr => first | (go_simp; done) | (go_simp; rfl)); (case hp => exact (Reps.none _ _))
                  intro v347 w18 ho19 hb hg_ hnew_
                  clear hg_ hnew_
                  (first | rw [← Ny346.out] at ho19 | (simp only [Int.reduceToNat] at ho19; rw [← Ny346.out] at ho19))
                  have n0_ := Aside0.mk (Kd.S_elder' (by (with_reducible repeat (first | apply Kd.S_alloc | apply Kd.S_drewN | apply Kd.S_drew)); exact HO_3.out) (Kd.R_base ho19) hb)
                  have n1_ := Aside0.mk (Kd.R_below (by (with_reducible repeat (first | apply Kd.R_alloc | apply Kd.R_drewN | apply Kd.R_drew)); exact HO336.out) hb)
                  have n2_ := Aside0.mk (Kd.R_below (by (with_reducible repeat (first | apply Kd.R_alloc | apply Kd.R_drewN | apply Kd.R_drew)); exact HO342.out) hb)
                  have n3_ := Aside0.mk (Kd.R_lower ho19 (below_size (by repeat (first | (with_reducible first | exact HB.out | apply below_alloc | apply pw_below_drewN | apply below_drew1 | refine below_set ?_ GE333.out) | exact HB.out))))
                  have n4_ := Aside0.mk (blk_below (g := gb333) (o := .cells #[.int .u8 ((rd_T30 l0 x4_1).f0), .int .i64 ((rd_T30 l0 x4_1).f1), .slice A332_2 ((rd_T30 l0 x4_1).f2).length c332_2, .slice A332_3 ((rd_T30 l0 x4_1).f3).length c332_3, .slice A332_4 ((rd_T30 l0 x4_1).f4).length c332_4] 30 (0, 0)) (by (with_reducible repeat (first | refine blk_drewN ?_ _ | refine blk_drew ?_ | refine blk_alloc ?_ _)); exact BK333.out) hb)
                  have n5_ := Aside0.mk (below_step (by repeat (first | (with_reducible first | exact HB.out | apply below_alloc | apply pw_below_drewN | apply below_drew1 | refine below_set ?_ GE333.out) | exact HB.out)) hb)
                  clear HO_3
                  clear HO336
                  clear HO342
                  clear BK333
                  clear HB
                  have HO_3 := n0_
                  have HO336 := n1_
                  have HO342 := n2_
                  have HO348 := n3_
                  have BK333 := n4_
                  have HB := n5_
                  clear n0_ n1_ n2_ n3_ n4_ n5_
                  clear hb ho19
                  refine hK.out _ _ ⟨(blk_cell BK333.out 0).trans rfl, (blk_cell BK333.out 1).trans rfl, (blk_cell BK333.out 2).trans rfl, (blk_cell BK333.out 3).trans rfl, (blk_cell BK333.out 4).trans rfl⟩ (fun hHeld => ?_)
                  clear hK K
                  refine norm_ (a' := ?_) ?_ ?_
                  rotate_left
                  ·show Act.put _ (some 29) _ = _
                   simp only [Act.put, List.setIfInBounds_toArray, List.set_cons_zero, List.set_cons_succ, i64_w, i32_w]
                   rfl
                  exact norm_ (by first | (simp only [putAll, Act.put, List.setIfInBounds_toArray, List.set_cons_zero, List.set_cons_succ]; done) | (simp only [putAll, Act.put, List.setIfInBounds_toArray, List.set_cons_zero, List.set_cons_succ]; rfl)) (hJ5_9_13 (v335, v341, v347) _ ⟨hHeld, (by (with_reducible repeat (first | apply Kd.R_alloc | apply Kd.R_drewN | apply Kd.R_drew)); exact HO336.out), (by (with_reducible repeat (first | apply Kd.R_alloc | apply Kd.R_drewN | apply Kd.R_drew)); exact HO342.out), (by (with_reducible repeat (first | apply Kd.R_alloc | apply Kd.R_drewN | apply Kd.R_drew)); exact HO348.out), (by (with_reducible repeat (first | apply Kd.S_alloc | apply Kd.S_drewN | apply Kd.S_drew)); exact Kd.S_mono HO_3.out (fun _ hk => ⟨hk.1.1, ⟨hk.1.2.1, ⟨hk.2, hk.1.2.2⟩⟩⟩)), (by (with_reducible repeat (first | refine blk_drewN ?_ _ | refine blk_drew ?_ | refine blk_alloc ?_ _)); exact BK333.out), (by repeat (first | (with_reducible first | exact HB.out | apply below_alloc | apply pw_below_drewN | apply below_drew1 | refine below_set ?_ GE333.out) | exact HB.out))⟩)
               ·skip
                rintro ⟨v335, v338⟩ w16 ⟨hS_, h0_, h1_, h2_, h3_⟩
                have n0_ : Aside0 (Kd.R (Kd.int .i32) 21 w16 w.heap.size (fun _ => True) v338 y337) := ⟨h0_⟩
                have n1_ : Aside0 (Kd.S k30 30 w16 w.heap.size (fun k_ => some k_ ≠ (v338 : Value).ownBlock ∧ k_ ≠ gb333) (.slice Ao10 x3_1.length co10) x3_1) := ⟨h1_⟩
                have n2_ : Aside0 (w16.heap[gb333]? = some (.cells #[.int .u8 ((rd_T30 l0 x4_1).f0), .int .i64 ((rd_T30 l0 x4_1).f1), .slice A332_2 ((rd_T30 l0 x4_1).f2).length c332_2, .slice A332_3 ((rd_T30 l0 x4_1).f3).length c332_3, .slice A332_4 ((rd_T30 l0 x4_1).f4).length c332_4] 30 (0, 0))) := ⟨h2_⟩
                have n3_ : Aside0 (Below w.heap.size w w16) := ⟨h3_⟩
                clear HO_3
                clear BK333
                clear HB
                clear h0_ h1_ h2_ h3_
                have HO339 := n0_
                have HO_3 := n1_
                have BK333 := n2_
                have HB := n3_
                clear n0_ n1_ n2_ n3_
                have hHeld : w16.cell? ⟨gb333, 0, none⟩ = some (.int .u8 ((rd_T30 l0 x4_1).f0)) ∧ w16.cell? ⟨gb333, 1, none⟩ = some (.int .i64 ((rd_T30 l0 x4_1).f1)) ∧ w16.cell? ⟨gb333, 2, none⟩ = some (.slice A332_2 ((rd_T30 l0 x4_1).f2).length c332_2) ∧ w16.cell? ⟨gb333, 3, none⟩ = some (.slice A332_3 ((rd_T30 l0 x4_1).f3).length c332_3) ∧ w16.cell? ⟨gb333, 4, none⟩ = some (.slice A332_4 ((rd_T30 l0 x4_1).f4).length c332_4) := hS_
                refine norm_ (a' := ?_) ?_ ?_
                rotate_left
                ·simp only [putAll, Act.put, List.setIfInBounds_toArray, List.set_cons_zero, List.set_cons_succ]
                 rfl
                refine two_ (i := 9) (j := 13) (Ni := some 25) (Nj := some 29) #[true, true, true, true, true, true, true, true, true, true, true, true, false, false, true, true, false, false, false, false, false] #[true, true, true, true, true, true, true, true, true, false, true, true, false, true, true, true, false, false, false, false, false] rfl rfl rfl rfl (two_of HT_.out (by kernel_rfl)) (by decide) (by decide) (fun K hK => ?_) (fun K hK => ?_)
                ·skip
                 refine Kd.R_lit_step k40 _ 40 ?hg (N := 25) ?hd (xs := ([] : List (S40))) (inner := []) (ok := fun _ => True) (okp := fun _ => True) ?hr ?hp (fun _ hk => hk) trivial (Below.refl _ _) (Nat.le_refl _) (by simp) ?_; (case hd => rfl); (case hg => rfl); (case hr => first | (go_simp; done) | (go_simp; rfl)); (case hp => exact (Reps.none _ _))
                 intro v341 w17 ho18 hb hg_ hnew_
                 clear hg_ hnew_
                 (first | rw [← Ny340.out] at ho18 | (simp only [Int.reduceToNat] at ho18; rw [← Ny340.out] at ho18))
                 have n0_ := Aside0.mk (Kd.S_elder' (by (with_reducible repeat (first | apply Kd.S_alloc | apply Kd.S_drewN | apply Kd.S_drew)); exact HO_3.out) (Kd.R_base ho18) hb)
                 have n1_ := Aside0.mk (Kd.R_below (by (with_reducible repeat (first | apply Kd.R_alloc | apply Kd.R_drewN | apply Kd.R_drew)); exact HO339.out) hb)
                 have n2_ := Aside0.mk (Kd.R_lower ho18 (below_size (by repeat (first | (with_reducible first | exact HB.out | apply below_alloc | apply pw_below_drewN | apply below_drew1 | refine below_set ?_ GE333.out) | exact HB.out))))
                 have n3_ := Aside0.mk (blk_below (g := gb333) (o := .cells #[.int .u8 ((rd_T30 l0 x4_1).f0), .int .i64 ((rd_T30 l0 x4_1).f1), .slice A332_2 ((rd_T30 l0 x4_1).f2).length c332_2, .slice A332_3 ((rd_T30 l0 x4_1).f3).length c332_3, .slice A332_4 ((rd_T30 l0 x4_1).f4).length c332_4] 30 (0, 0)) (by (with_reducible repeat (first | refine blk_drewN ?_ _ | refine blk_drew ?_ | refine blk_alloc ?_ _)); exact BK333.out) hb)
                 have n4_ := Aside0.mk (below_step (by repeat (first | (with_reducible first | exact HB.out | apply below_alloc | apply pw_below_drewN | apply below_drew1 | refine below_set ?_ GE333.out) | exact HB.out)) hb)
                 clear HO_3
                 clear HO339
                 clear BK333
                 clear HB
                 have HO_3 := n0_
                 have HO339 := n1_
                 have HO342 := n2_
                 have BK333 := n3_
                 have HB := n4_
                 clear n0_ n1_ n2_ n3_ n4_
                 clear hb ho18
                 refine hK.out _ _ ⟨(blk_cell BK333.out 0).trans rfl, (blk_cell BK333.out 1).trans rfl, (blk_cell BK333.out 2).trans rfl, (blk_cell BK333.out 3).trans rfl, (blk_cell BK333.out 4).trans rfl⟩ (fun hHeld => ?_)
                 clear hK K
                 refine norm_ (a' := ?_) ?_ ?_
                 rotate_left
                 ·show Act.put _ (some 25) _ = _
                  simp only [Act.put, List.setIfInBounds_toArray, List.set_cons_zero, List.set_cons_succ, i64_w, i32_w]
                  rfl
                 exact norm_ (by first | (simp only [putAll, Act.put, List.setIfInBounds_toArray, List.set_cons_zero, List.set_cons_succ]; done) | (simp only [putAll, Act.put, List.setIfInBounds_toArray, List.set_cons_zero, List.set_cons_succ]; rfl)) (hJ5_8_9 (v335, v338, v341) _ ⟨hHeld, (by (with_reducible repeat (first | apply Kd.R_alloc | apply Kd.R_drewN | apply Kd.R_drew)); exact HO339.out), (by (with_reducible repeat (first | apply Kd.R_alloc | apply Kd.R_drewN | apply Kd.R_drew)); exact HO342.out), (by (with_reducible repeat (first | apply Kd.S_alloc | apply Kd.S_drewN | apply Kd.S_drew)); exact Kd.S_mono HO_3.out (fun _ hk => ⟨hk.1.1, ⟨hk.2, hk.1.2⟩⟩)), (by (with_reducible repeat (first | refine blk_drewN ?_ _ | refine blk_drew ?_ | refine blk_alloc ?_ _)); exact BK333.out), (by repeat (first | (with_reducible first | exact HB.out | apply below_alloc | apply pw_below_drewN | apply below_drew1 | refine below_set ?_ GE333.out) | exact HB.out))⟩)
                ·skip
                 refine Kd.R_lit_step k42 _ 42 ?hg (N := 29) ?hd (xs := ([] : List (S42))) (inner := []) (ok := fun _ => True) (okp := fun _ => True) ?hr ?hp (fun _ hk => hk) trivial (Below.refl _ _) (Nat.le_refl _) (by simp) ?_; (case hd => rfl); (case hg => rfl); (case hr => first | (go_simp; done) | (go_simp; rfl)); (case hp => exact (Reps.none _ _))
                 intro v347 w17 ho18 hb hg_ hnew_
                 clear hg_ hnew_
                 (first | rw [← Ny346.out] at ho18 | (simp only [Int.reduceToNat] at ho18; rw [← Ny346.out] at ho18))
                 have n0_ := Aside0.mk (Kd.S_elder' (by (with_reducible repeat (first | apply Kd.S_alloc | apply Kd.S_drewN | apply Kd.S_drew)); exact HO_3.out) (Kd.R_base ho18) hb)
                 have n1_ := Aside0.mk (Kd.R_below (by (with_reducible repeat (first | apply Kd.R_alloc | apply Kd.R_drewN | apply Kd.R_drew)); exact HO339.out) hb)
                 have n2_ := Aside0.mk (Kd.R_lower ho18 (below_size (by repeat (first | (with_reducible first | exact HB.out | apply below_alloc | apply pw_below_drewN | apply below_drew1 | refine below_set ?_ GE333.out) | exact HB.out))))
                 have n3_ := Aside0.mk (blk_below (g := gb333) (o := .cells #[.int .u8 ((rd_T30 l0 x4_1).f0), .int .i64 ((rd_T30 l0 x4_1).f1), .slice A332_2 ((rd_T30 l0 x4_1).f2).length c332_2, .slice A332_3 ((rd_T30 l0 x4_1).f3).length c332_3, .slice A332_4 ((rd_T30 l0 x4_1).f4).length c332_4] 30 (0, 0)) (by (with_reducible repeat (first | refine blk_drewN ?_ _ | refine blk_drew ?_ | refine blk_alloc ?_ _)); exact BK333.out) hb)
                 have n4_ := Aside0.mk (below_step (by repeat (first | (with_reducible first | exact HB.out | apply below_alloc | apply pw_below_drewN | apply below_drew1 | refine below_set ?_ GE333.out) | exact HB.out)) hb)
                 clear HO_3
                 clear HO339
                 clear BK333
                 clear HB
                 have HO_3 := n0_
                 have HO339 := n1_
                 have HO348 := n2_
                 have BK333 := n3_
                 have HB := n4_
                 clear n0_ n1_ n2_ n3_ n4_
                 clear hb ho18
                 refine hK.out _ _ ⟨(blk_cell BK333.out 0).trans rfl, (blk_cell BK333.out 1).trans rfl, (blk_cell BK333.out 2).trans rfl, (blk_cell BK333.out 3).trans rfl, (blk_cell BK333.out 4).trans rfl⟩ (fun hHeld => ?_)
                 clear hK K
                 refine norm_ (a' := ?_) ?_ ?_
                 rotate_left
                 ·show Act.put _ (some 29) _ = _
                  simp only [Act.put, List.setIfInBounds_toArray, List.set_cons_zero, List.set_cons_succ, i64_w, i32_w]
                  rfl
                 exact norm_ (by first | (simp only [putAll, Act.put, List.setIfInBounds_toArray, List.set_cons_zero, List.set_cons_succ]; done) | (simp only [putAll, Act.put, List.setIfInBounds_toArray, List.set_cons_zero, List.set_cons_succ]; rfl)) (hJ5_8_13 (v335, v338, v347) _ ⟨hHeld, (by (with_reducible repeat (first | apply Kd.R_alloc | apply Kd.R_drewN | apply Kd.R_drew)); exact HO339.out), (by (with_reducible repeat (first | apply Kd.R_alloc | apply Kd.R_drewN | apply Kd.R_drew)); exact HO348.out), (by (with_reducible repeat (first | apply Kd.S_alloc | apply Kd.S_drewN | apply Kd.S_drew)); exact Kd.S_mono HO_3.out (fun _ hk => ⟨hk.1.1, ⟨hk.2, hk.1.2⟩⟩)), (by (with_reducible repeat (first | refine blk_drewN ?_ _ | refine blk_drew ?_ | refine blk_alloc ?_ _)); exact BK333.out), (by repeat (first | (with_reducible first | exact HB.out | apply below_alloc | apply pw_below_drewN | apply below_drew1 | refine below_set ?_ GE333.out) | exact HB.out))⟩)
              ·skip
               rintro ⟨v335, v341, v347⟩ w19 ⟨hS_, h0_, h1_, h2_, h3_, h4_, h5_⟩
               have n0_ : Aside0 (Kd.R (Kd.int .i32) 21 w19 w.heap.size (fun _ => True) v335 y334) := ⟨h0_⟩
               have n1_ : Aside0 (Kd.R k40 40 w19 w.heap.size (fun _ => True) v341 y340) := ⟨h1_⟩
               have n2_ : Aside0 (Kd.R k42 42 w19 w.heap.size (fun _ => True) v347 y346) := ⟨h2_⟩
               have n3_ : Aside0 (Kd.S k30 30 w19 w.heap.size (fun k_ => some k_ ≠ (v335 : Value).ownBlock ∧ some k_ ≠ (v341 : Value).ownBlock ∧ some k_ ≠ (v347 : Value).ownBlock ∧ k_ ≠ gb333) (.slice Ao10 x3_1.length co10) x3_1) := ⟨h3_⟩
               have n4_ : Aside0 (w19.heap[gb333]? = some (.cells #[.int .u8 ((rd_T30 l0 x4_1).f0), .int .i64 ((rd_T30 l0 x4_1).f1), .slice A332_2 ((rd_T30 l0 x4_1).f2).length c332_2, .slice A332_3 ((rd_T30 l0 x4_1).f3).length c332_3, .slice A332_4 ((rd_T30 l0 x4_1).f4).length c332_4] 30 (0, 0))) := ⟨h4_⟩
               have n5_ : Aside0 (Below w.heap.size w w19) := ⟨h5_⟩
               clear HO_3
               clear BK333
               clear HB
               clear h0_ h1_ h2_ h3_ h4_ h5_
               have HO336 := n0_
               have HO342 := n1_
               have HO348 := n2_
               have HO_3 := n3_
               have BK333 := n4_
               have HB := n5_
               clear n0_ n1_ n2_ n3_ n4_ n5_
               have hHeld : w19.cell? ⟨gb333, 0, none⟩ = some (.int .u8 ((rd_T30 l0 x4_1).f0)) ∧ w19.cell? ⟨gb333, 1, none⟩ = some (.int .i64 ((rd_T30 l0 x4_1).f1)) ∧ w19.cell? ⟨gb333, 2, none⟩ = some (.slice A332_2 ((rd_T30 l0 x4_1).f2).length c332_2) ∧ w19.cell? ⟨gb333, 3, none⟩ = some (.slice A332_3 ((rd_T30 l0 x4_1).f3).length c332_3) ∧ w19.cell? ⟨gb333, 4, none⟩ = some (.slice A332_4 ((rd_T30 l0 x4_1).f4).length c332_4) := hS_
               refine norm_ (a' := ?_) ?_ ?_
               rotate_left
               ·simp only [putAll, Act.put, List.setIfInBounds_toArray, List.set_cons_zero, List.set_cons_succ]
                rfl
               refine one_ (i := 8) (N := some 24) #[true, true, true, true, true, true, true, true, true, true, true, true, false, true, true, true, false, false, false, false, false] rfl rfl (one_of HT_.out (by kernel_rfl)) (by decide) (fun K hK => ?_)
               refine Kd.R_append_rows_step (Kd.int .i32) (w0 := w) w.heap.size (by rfl) (.tmp 21) (.tmp 23) 26 21 (.int .i32 0) 4 rfl Try.underlying26 info21 rfl (by decide) (by omega) v335 y334 ((rd_T30 l0 x4_1).f2) _ _ _ (fun _ => True) (fun _ => False) rfl rfl ?aO ?aR (fun _ _ h => h) (fun _ h => h.elim) ?aF ?aB ?aS ?aL ?_
               (case aR => repeat (first | exact (Kd.C_below HR332_2.out HB.out) | (with_reducible refine Kd.C_alloc ?_ _) | (with_reducible refine Kd.C_drewN ?_ _) | (with_reducible refine Kd.C_drew ?_)))
               (case aB => exact (by repeat (first | (with_reducible first | exact HB.out | apply below_alloc | apply pw_below_drewN | apply below_drew1 | refine below_set ?_ GE333.out) | exact HB.out)))
               (case aF => exact (fun _ _ => trivial))
               (case aO => exact (by (with_reducible repeat (first | apply Kd.R_alloc | apply Kd.R_drewN | apply Kd.R_drew)); exact HO336.out))
               (case aS => exact (below_size (by repeat (first | (with_reducible first | exact HB.out | apply below_alloc | apply pw_below_drewN | apply below_drew1 | refine below_set ?_ GE333.out) | exact HB.out))))
               (case aL => have := LMc4.out; omega)
               intro v338 w20 ho hb hg hat
               rw [← Ny337.out] at ho
               have n0_ := Aside0.mk (Kd.S_after (ok := (fun k_ => some k_ ≠ (v341 : Value).ownBlock ∧ some k_ ≠ (v347 : Value).ownBlock ∧ k_ ≠ gb333)) (by (with_reducible repeat (first | apply Kd.S_alloc | apply Kd.S_drewN | apply Kd.S_drew)); exact Kd.S_mono HO_3.out (fun _ hk => ⟨⟨hk.2.1, ⟨hk.2.2.1, hk.2.2.2⟩⟩, hk.1⟩)) hg hat)
               have n1_ := Aside0.mk (blk_grown (g := gb333) (o := .cells #[.int .u8 ((rd_T30 l0 x4_1).f0), .int .i64 ((rd_T30 l0 x4_1).f1), .slice A332_2 ((rd_T30 l0 x4_1).f2).length c332_2, .slice A332_3 ((rd_T30 l0 x4_1).f3).length c332_3, .slice A332_4 ((rd_T30 l0 x4_1).f4).length c332_4] 30 (0, 0)) (by (with_reducible repeat (first | refine blk_drewN ?_ _ | refine blk_drew ?_ | refine blk_alloc ?_ _)); exact BK333.out) hg (Kd.R_ne HO336.out BK333.out (by decide)))
               have n2_ := Aside0.mk (Kd.R_over' (by (with_reducible repeat (first | apply Kd.R_alloc | apply Kd.R_drewN | apply Kd.R_drew)); exact HO342.out) (Kd.R_typed (by (with_reducible repeat (first | apply Kd.R_alloc | apply Kd.R_drewN | apply Kd.R_drew)); exact HO336.out)) (by decide) hg)
               have n3_ := Aside0.mk (Kd.R_over' (by (with_reducible repeat (first | apply Kd.R_alloc | apply Kd.R_drewN | apply Kd.R_drew)); exact HO348.out) (Kd.R_typed (by (with_reducible repeat (first | apply Kd.R_alloc | apply Kd.R_drewN | apply Kd.R_drew)); exact HO336.out)) (by decide) hg)
               have n4_ := Aside0.mk (hb)
               have n5_ := Aside0.mk (ho)
               clear HO_3
               clear BK333
               clear HO342
               clear HO348
               clear HB
               clear HO336
               have HO_3 := n0_
               have BK333 := n1_
               have HO342 := n2_
               have HO348 := n3_
               have HB := n4_
               have HO339 := n5_
               clear n0_ n1_ n2_ n3_ n4_ n5_
               clear ho hb hg hat
               refine hK.out _ _ ⟨(blk_cell BK333.out 0).trans rfl, (blk_cell BK333.out 1).trans rfl, (blk_cell BK333.out 2).trans rfl, (blk_cell BK333.out 3).trans rfl, (blk_cell BK333.out 4).trans rfl⟩ (fun hHeld => ?_)
               clear hK K
               refine norm_ (a' := ?_) ?_ ?_
               rotate_left
               ·show Act.put _ (some 24) _ = _
                simp only [Act.put, List.setIfInBounds_toArray, List.set_cons_zero, List.set_cons_succ, i64_w, i32_w]
                rfl
               exact norm_ (by first | (simp only [putAll, Act.put, List.setIfInBounds_toArray, List.set_cons_zero, List.set_cons_succ]; done) | (simp only [putAll, Act.put, List.setIfInBounds_toArray, List.set_cons_zero, List.set_cons_succ]; rfl)) (hJ5_8_9_13 (v335, v338, v341, v347) _ ⟨hHeld, (by (with_reducible repeat (first | apply Kd.R_alloc | apply Kd.R_drewN | apply Kd.R_drew)); exact HO339.out), (by (with_reducible repeat (first | apply Kd.R_alloc | apply Kd.R_drewN | apply Kd.R_drew)); exact HO342.out), (by (with_reducible repeat (first | apply Kd.R_alloc | apply Kd.R_drewN | apply Kd.R_drew)); exact HO348.out), (by (with_reducible repeat (first | apply Kd.S_alloc | apply Kd.S_drewN | apply Kd.S_drew)); exact Kd.S_mono HO_3.out (fun _ hk => ⟨hk.2, ⟨hk.1.1, ⟨hk.1.2.1, hk.1.2.2⟩⟩⟩)), (by (with_reducible repeat (first | refine blk_drewN ?_ _ | refine blk_drew ?_ | refine blk_alloc ?_ _)); exact BK333.out), (by repeat (first | (with_reducible first | exact HB.out | apply below_alloc | apply pw_below_drewN | apply below_drew1 | refine below_set ?_ GE333.out) | exact HB.out))⟩)
             ·skip
              rintro ⟨v335, v338, v347⟩ w18 ⟨hS_, h0_, h1_, h2_, h3_, h4_⟩
              have n0_ : Aside0 (Kd.R (Kd.int .i32) 21 w18 w.heap.size (fun _ => True) v338 y337) := ⟨h0_⟩
              have n1_ : Aside0 (Kd.R k42 42 w18 w.heap.size (fun _ => True) v347 y346) := ⟨h1_⟩
              have n2_ : Aside0 (Kd.S k30 30 w18 w.heap.size (fun k_ => some k_ ≠ (v338 : Value).ownBlock ∧ some k_ ≠ (v347 : Value).ownBlock ∧ k_ ≠ gb333) (.slice Ao10 x3_1.length co10) x3_1) := ⟨h2_⟩
              have n3_ : Aside0 (w18.heap[gb333]? = some (.cells #[.int .u8 ((rd_T30 l0 x4_1).f0), .int .i64 ((rd_T30 l0 x4_1).f1), .slice A332_2 ((rd_T30 l0 x4_1).f2).length c332_2, .slice A332_3 ((rd_T30 l0 x4_1).f3).length c332_3, .slice A332_4 ((rd_T30 l0 x4_1).f4).length c332_4] 30 (0, 0))) := ⟨h3_⟩
              have n4_ : Aside0 (Below w.heap.size w w18) := ⟨h4_⟩
              clear HO_3
              clear BK333
              clear HB
              clear h0_ h1_ h2_ h3_ h4_
              have HO339 := n0_
              have HO348 := n1_
              have HO_3 := n2_
              have BK333 := n3_
              have HB := n4_
              clear n0_ n1_ n2_ n3_ n4_
              have hHeld : w18.cell? ⟨gb333, 0, none⟩ = some (.int .u8 ((rd_T30 l0 x4_1).f0)) ∧ w18.cell? ⟨gb333, 1, none⟩ = some (.int .i64 ((rd_T30 l0 x4_1).f1)) ∧ w18.cell? ⟨gb333, 2, none⟩ = some (.slice A332_2 ((rd_T30 l0 x4_1).f2).length c332_2) ∧ w18.cell? ⟨gb333, 3, none⟩ = some (.slice A332_3 ((rd_T30 l0 x4_1).f3).length c332_3) ∧ w18.cell? ⟨gb333, 4, none⟩ = some (.slice A332_4 ((rd_T30 l0 x4_1).f4).length c332_4) := hS_
              refine norm_ (a' := ?_) ?_ ?_
              rotate_left
              ·simp only [putAll, Act.put, List.setIfInBounds_toArray, List.set_cons_zero, List.set_cons_succ]
               rfl
              refine one_ (i := 9) (N := some 25) #[true, true, true, true, true, true, true, true, true, true, true, true, false, true, true, true, false, false, false, false, false] rfl rfl (one_of HT_.out (by kernel_rfl)) (by decide) (fun K hK => ?_)
              refine Kd.R_lit_step k40 _ 40 ?hg (N := 25) ?hd (xs := ([] : List (S40))) (inner := []) (ok := fun _ => True) (okp := fun _ => True) ?hr ?hp (fun _ hk => hk) trivial (Below.refl _ _) (Nat.le_refl _) (by simp) ?_; (case hd => rfl); (case hg => rfl); (case hr => first | (go_simp; done) | (go_simp; rfl)); (case hp => exact (Reps.none _ _))
              intro v341 w19 ho20 hb hg_ hnew_
              clear hg_ hnew_
              (first | rw [← Ny340.out] at ho20 | (simp only [Int.reduceToNat] at ho20; rw [← Ny340.out] at ho20))
              have n0_ := Aside0.mk (Kd.S_elder' (by (with_reducible repeat (first | apply Kd.S_alloc | apply Kd.S_drewN | apply Kd.S_drew)); exact HO_3.out) (Kd.R_base ho20) hb)
              have n1_ := Aside0.mk (Kd.R_below (by (with_reducible repeat (first | apply Kd.R_alloc | apply Kd.R_drewN | apply Kd.R_drew)); exact HO339.out) hb)
              have n2_ := Aside0.mk (Kd.R_below (by (with_reducible repeat (first | apply Kd.R_alloc | apply Kd.R_drewN | apply Kd.R_drew)); exact HO348.out) hb)
              have n3_ := Aside0.mk (Kd.R_lower ho20 (below_size (by repeat (first | (with_reducible first | exact HB.out | apply below_alloc | apply pw_below_drewN | apply below_drew1 | refine below_set ?_ GE333.out) | exact HB.out))))
              have n4_ := Aside0.mk (blk_below (g := gb333) (o := .cells #[.int .u8 ((rd_T30 l0 x4_1).f0), .int .i64 ((rd_T30 l0 x4_1).f1), .slice A332_2 ((rd_T30 l0 x4_1).f2).length c332_2, .slice A332_3 ((rd_T30 l0 x4_1).f3).length c332_3, .slice A332_4 ((rd_T30 l0 x4_1).f4).length c332_4] 30 (0, 0)) (by (with_reducible repeat (first | refine blk_drewN ?_ _ | refine blk_drew ?_ | refine blk_alloc ?_ _)); exact BK333.out) hb)
              have n5_ := Aside0.mk (below_step (by repeat (first | (with_reducible first | exact HB.out | apply below_alloc | apply pw_below_drewN | apply below_drew1 | refine below_set ?_ GE333.out) | exact HB.out)) hb)
              clear HO_3
              clear HO339
              clear HO348
              clear BK333
              clear HB
              have HO_3 := n0_
              have HO339 := n1_
              have HO348 := n2_
              have HO342 := n3_
              have BK333 := n4_
              have HB := n5_
              clear n0_ n1_ n2_ n3_ n4_ n5_
              clear hb ho20
              refine hK.out _ _ ⟨(blk_cell BK333.out 0).trans rfl, (blk_cell BK333.out 1).trans rfl, (blk_cell BK333.out 2).trans rfl, (blk_cell BK333.out 3).trans rfl, (blk_cell BK333.out 4).trans rfl⟩ (fun hHeld => ?_)
              clear hK K
              refine norm_ (a' := ?_) ?_ ?_
              rotate_left
              ·show Act.put _ (some 25) _ = _
               simp only [Act.put, List.setIfInBounds_toArray, List.set_cons_zero, List.set_cons_succ, i64_w, i32_w]
               rfl
              exact norm_ (by first | (simp only [putAll, Act.put, List.setIfInBounds_toArray, List.set_cons_zero, List.set_cons_succ]; done) | (simp only [putAll, Act.put, List.setIfInBounds_toArray, List.set_cons_zero, List.set_cons_succ]; rfl)) (hJ5_8_9_13 (v335, v338, v341, v347) _ ⟨hHeld, (by (with_reducible repeat (first | apply Kd.R_alloc | apply Kd.R_drewN | apply Kd.R_drew)); exact HO339.out), (by (with_reducible repeat (first | apply Kd.R_alloc | apply Kd.R_drewN | apply Kd.R_drew)); exact HO342.out), (by (with_reducible repeat (first | apply Kd.R_alloc | apply Kd.R_drewN | apply Kd.R_drew)); exact HO348.out), (by (with_reducible repeat (first | apply Kd.S_alloc | apply Kd.S_drewN | apply Kd.S_drew)); exact Kd.S_mono HO_3.out (fun _ hk => ⟨hk.1.1, ⟨hk.2, ⟨hk.1.2.1, hk.1.2.2⟩⟩⟩)), (by (with_reducible repeat (first | refine blk_drewN ?_ _ | refine blk_drew ?_ | refine blk_alloc ?_ _)); exact BK333.out), (by repeat (first | (with_reducible first | exact HB.out | apply below_alloc | apply pw_below_drewN | apply below_drew1 | refine below_set ?_ GE333.out) | exact HB.out))⟩)
            ·skip
             rintro ⟨v335, v338, v341⟩ w18 ⟨hS_, h0_, h1_, h2_, h3_, h4_⟩
             have n0_ : Aside0 (Kd.R (Kd.int .i32) 21 w18 w.heap.size (fun _ => True) v338 y337) := ⟨h0_⟩
             have n1_ : Aside0 (Kd.R k40 40 w18 w.heap.size (fun _ => True) v341 y340) := ⟨h1_⟩
             have n2_ : Aside0 (Kd.S k30 30 w18 w.heap.size (fun k_ => some k_ ≠ (v338 : Value).ownBlock ∧ some k_ ≠ (v341 : Value).ownBlock ∧ k_ ≠ gb333) (.slice Ao10 x3_1.length co10) x3_1) := ⟨h2_⟩
             have n3_ : Aside0 (w18.heap[gb333]? = some (.cells #[.int .u8 ((rd_T30 l0 x4_1).f0), .int .i64 ((rd_T30 l0 x4_1).f1), .slice A332_2 ((rd_T30 l0 x4_1).f2).length c332_2, .slice A332_3 ((rd_T30 l0 x4_1).f3).length c332_3, .slice A332_4 ((rd_T30 l0 x4_1).f4).length c332_4] 30 (0, 0))) := ⟨h3_⟩
             have n4_ : Aside0 (Below w.heap.size w w18) := ⟨h4_⟩
             clear HO_3
             clear BK333
             clear HB
             clear h0_ h1_ h2_ h3_ h4_
             have HO339 := n0_
             have HO342 := n1_
             have HO_3 := n2_
             have BK333 := n3_
             have HB := n4_
             clear n0_ n1_ n2_ n3_ n4_
             have hHeld : w18.cell? ⟨gb333, 0, none⟩ = some (.int .u8 ((rd_T30 l0 x4_1).f0)) ∧ w18.cell? ⟨gb333, 1, none⟩ = some (.int .i64 ((rd_T30 l0 x4_1).f1)) ∧ w18.cell? ⟨gb333, 2, none⟩ = some (.slice A332_2 ((rd_T30 l0 x4_1).f2).length c332_2) ∧ w18.cell? ⟨gb333, 3, none⟩ = some (.slice A332_3 ((rd_T30 l0 x4_1).f3).length c332_3) ∧ w18.cell? ⟨gb333, 4, none⟩ = some (.slice A332_4 ((rd_T30 l0 x4_1).f4).length c332_4) := hS_
             refine norm_ (a' := ?_) ?_ ?_
             rotate_left
             ·simp only [putAll, Act.put, List.setIfInBounds_toArray, List.set_cons_zero, List.set_cons_succ]
              rfl
             refine two_ (i := 12) (j := 13) (Ni := some 28) (Nj := some 29) #[true, true, true, true, true, true, true, true, true, true, true, true, true, false, true, true, false, false, false, false, false] #[true, true, true, true, true, true, true, true, true, true, true, true, false, true, true, true, false, false, false, false, false] rfl rfl rfl rfl (two_of HT_.out (by kernel_rfl)) (by decide) (by decide) (fun K hK => ?_) (fun K hK => ?_)
             ·skip
              refine Kd.R_append_rows_step k40 (w0 := w) w.heap.size (by rfl) (.tmp 25) (.tmp 27) 27 40 (.agg #[(.int .i64 0), (.int .u8 0), (.int .i64 0), (.int .u64 0), (.string ⟨#[]⟩)]) 48 rfl Try.underlying27 info40 rfl (by decide) (by omega) v341 y340 ((rd_T30 l0 x4_1).f3) _ _ _ (fun _ => True) (fun _ => False) rfl rfl ?aO ?aR (fun _ _ h => h) (fun _ h => h.elim) ?aF ?aB ?aS ?aL ?_
              (case aR => repeat (first | exact (Kd.C_below HR332_3.out HB.out) | (with_reducible refine Kd.C_alloc ?_ _) | (with_reducible refine Kd.C_drewN ?_ _) | (with_reducible refine Kd.C_drew ?_)))
              (case aB => exact (by repeat (first | (with_reducible first | exact HB.out | apply below_alloc | apply pw_below_drewN | apply below_drew1 | refine below_set ?_ GE333.out) | exact HB.out)))
              (case aF => exact (fun _ _ => trivial))
              (case aO => exact (by (with_reducible repeat (first | apply Kd.R_alloc | apply Kd.R_drewN | apply Kd.R_drew)); exact HO342.out))
              (case aS => exact (below_size (by repeat (first | (with_reducible first | exact HB.out | apply below_alloc | apply pw_below_drewN | apply below_drew1 | refine below_set ?_ GE333.out) | exact HB.out))))
              (case aL => have := LMc5.out; omega)
              intro v344 w19 ho hb hg hat
              rw [← Ny343.out] at ho
              have n0_ := Aside0.mk (Kd.S_after (ok := (fun k_ => some k_ ≠ (v338 : Value).ownBlock ∧ k_ ≠ gb333)) (by (with_reducible repeat (first | apply Kd.S_alloc | apply Kd.S_drewN | apply Kd.S_drew)); exact Kd.S_mono HO_3.out (fun _ hk => ⟨⟨hk.1, hk.2.2⟩, hk.2.1⟩)) hg hat)
              have n1_ := Aside0.mk (blk_grown (g := gb333) (o := .cells #[.int .u8 ((rd_T30 l0 x4_1).f0), .int .i64 ((rd_T30 l0 x4_1).f1), .slice A332_2 ((rd_T30 l0 x4_1).f2).length c332_2, .slice A332_3 ((rd_T30 l0 x4_1).f3).length c332_3, .slice A332_4 ((rd_T30 l0 x4_1).f4).length c332_4] 30 (0, 0)) (by (with_reducible repeat (first | refine blk_drewN ?_ _ | refine blk_drew ?_ | refine blk_alloc ?_ _)); exact BK333.out) hg (Kd.R_ne HO342.out BK333.out (by decide)))
              have n2_ := Aside0.mk (Kd.R_over' (by (with_reducible repeat (first | apply Kd.R_alloc | apply Kd.R_drewN | apply Kd.R_drew)); exact HO339.out) (Kd.R_typed (by (with_reducible repeat (first | apply Kd.R_alloc | apply Kd.R_drewN | apply Kd.R_drew)); exact HO342.out)) (by decide) hg)
              have n3_ := Aside0.mk (hb)
              have n4_ := Aside0.mk (ho)
              clear HO_3
              clear BK333
              clear HO339
              clear HB
              clear HO342
              have HO_3 := n0_
              have BK333 := n1_
              have HO339 := n2_
              have HB := n3_
              have HO345 := n4_
              clear n0_ n1_ n2_ n3_ n4_
              clear ho hb hg hat
              refine hK.out _ _ ⟨(blk_cell BK333.out 0).trans rfl, (blk_cell BK333.out 1).trans rfl, (blk_cell BK333.out 2).trans rfl, (blk_cell BK333.out 3).trans rfl, (blk_cell BK333.out 4).trans rfl⟩ (fun hHeld => ?_)
              clear hK K
              refine norm_ (a' := ?_) ?_ ?_
              rotate_left
              ·show Act.put _ (some 28) _ = _
               simp only [Act.put, List.setIfInBounds_toArray, List.set_cons_zero, List.set_cons_succ, i64_w, i32_w]
               rfl
              exact norm_ (by first | (simp only [putAll, Act.put, List.setIfInBounds_toArray, List.set_cons_zero, List.set_cons_succ]; done) | (simp only [putAll, Act.put, List.setIfInBounds_toArray, List.set_cons_zero, List.set_cons_succ]; rfl)) (hJ5_8_9_12 (v335, v338, v341, v344) _ ⟨hHeld, (by (with_reducible repeat (first | apply Kd.R_alloc | apply Kd.R_drewN | apply Kd.R_drew)); exact HO339.out), (by (with_reducible repeat (first | apply Kd.R_alloc | apply Kd.R_drewN | apply Kd.R_drew)); exact HO345.out), (by (with_reducible repeat (first | apply Kd.S_alloc | apply Kd.S_drewN | apply Kd.S_drew)); exact Kd.S_mono HO_3.out (fun _ hk => ⟨hk.1.1, ⟨hk.2, hk.1.2⟩⟩)), (by (with_reducible repeat (first | refine blk_drewN ?_ _ | refine blk_drew ?_ | refine blk_alloc ?_ _)); exact BK333.out), (by repeat (first | (with_reducible first | exact HB.out | apply below_alloc | apply pw_below_drewN | apply below_drew1 | refine below_set ?_ GE333.out) | exact HB.out))⟩)
             ·skip
              refine Kd.R_lit_step k42 _ 42 ?hg (N := 29) ?hd (xs := ([] : List (S42))) (inner := []) (ok := fun _ => True) (okp := fun _ => True) ?hr ?hp (fun _ hk => hk) trivial (Below.refl _ _) (Nat.le_refl _) (by simp) ?_; (case hd => rfl); (case hg => rfl); (case hr => first | (go_simp; done) | (go_simp; rfl)); (case hp => exact (Reps.none _ _))
              intro v347 w19 ho20 hb hg_ hnew_
              clear hg_ hnew_
              (first | rw [← Ny346.out] at ho20 | (simp only [Int.reduceToNat] at ho20; rw [← Ny346.out] at ho20))
              have n0_ := Aside0.mk (Kd.S_elder' (by (with_reducible repeat (first | apply Kd.S_alloc | apply Kd.S_drewN | apply Kd.S_drew)); exact HO_3.out) (Kd.R_base ho20) hb)
              have n1_ := Aside0.mk (Kd.R_below (by (with_reducible repeat (first | apply Kd.R_alloc | apply Kd.R_drewN | apply Kd.R_drew)); exact HO339.out) hb)
              have n2_ := Aside0.mk (Kd.R_below (by (with_reducible repeat (first | apply Kd.R_alloc | apply Kd.R_drewN | apply Kd.R_drew)); exact HO342.out) hb)
              have n3_ := Aside0.mk (Kd.R_lower ho20 (below_size (by repeat (first | (with_reducible first | exact HB.out | apply below_alloc | apply pw_below_drewN | apply below_drew1 | refine below_set ?_ GE333.out) | exact HB.out))))
              have n4_ := Aside0.mk (blk_below (g := gb333) (o := .cells #[.int .u8 ((rd_T30 l0 x4_1).f0), .int .i64 ((rd_T30 l0 x4_1).f1), .slice A332_2 ((rd_T30 l0 x4_1).f2).length c332_2, .slice A332_3 ((rd_T30 l0 x4_1).f3).length c332_3, .slice A332_4 ((rd_T30 l0 x4_1).f4).length c332_4] 30 (0, 0)) (by (with_reducible repeat (first | refine blk_drewN ?_ _ | refine blk_drew ?_ | refine blk_alloc ?_ _)); exact BK333.out) hb)
              have n5_ := Aside0.mk (below_step (by repeat (first | (with_reducible first | exact HB.out | apply below_alloc | apply pw_below_drewN | apply below_drew1 | refine below_set ?_ GE333.out) | exact HB.out)) hb)
              clear HO_3
              clear HO339
              clear HO342
              clear BK333
              clear HB
              have HO_3 := n0_
              have HO339 := n1_
              have HO342 := n2_
              have HO348 := n3_
              have BK333 := n4_
              have HB := n5_
              clear n0_ n1_ n2_ n3_ n4_ n5_
              clear hb ho20
              refine hK.out _ _ ⟨(blk_cell BK333.out 0).trans rfl, (blk_cell BK333.out 1).trans rfl, (blk_cell BK333.out 2).trans rfl, (blk_cell BK333.out 3).trans rfl, (blk_cell BK333.out 4).trans rfl⟩ (fun hHeld => ?_)
              clear hK K
              refine norm_ (a' := ?_) ?_ ?_
              rotate_left
              ·show Act.put _ (some 29) _ = _
               simp only [Act.put, List.setIfInBounds_toArray, List.set_cons_zero, List.set_cons_succ, i64_w, i32_w]
               rfl
              exact norm_ (by first | (simp only [putAll, Act.put, List.setIfInBounds_toArray, List.set_cons_zero, List.set_cons_succ]; done) | (simp only [putAll, Act.put, List.setIfInBounds_toArray, List.set_cons_zero, List.set_cons_succ]; rfl)) (hJ5_8_9_13 (v335, v338, v341, v347) _ ⟨hHeld, (by (with_reducible repeat (first | apply Kd.R_alloc | apply Kd.R_drewN | apply Kd.R_drew)); exact HO339.out), (by (with_reducible repeat (first | apply Kd.R_alloc | apply Kd.R_drewN | apply Kd.R_drew)); exact HO342.out), (by (with_reducible repeat (first | apply Kd.R_alloc | apply Kd.R_drewN | apply Kd.R_drew)); exact HO348.out), (by (with_reducible repeat (first | apply Kd.S_alloc | apply Kd.S_drewN | apply Kd.S_drew)); exact Kd.S_mono HO_3.out (fun _ hk => ⟨hk.1.1, ⟨hk.1.2.1, ⟨hk.2, hk.1.2.2⟩⟩⟩)), (by (with_reducible repeat (first | refine blk_drewN ?_ _ | refine blk_drew ?_ | refine blk_alloc ?_ _)); exact BK333.out), (by repeat (first | (with_reducible first | exact HB.out | apply below_alloc | apply pw_below_drewN | apply below_drew1 | refine below_set ?_ GE333.out) | exact HB.out))⟩)
           ·skip
            rintro ⟨v335, v338, v341, v347⟩ w20 ⟨hS_, h0_, h1_, h2_, h3_, h4_, h5_⟩
            have n0_ : Aside0 (Kd.R (Kd.int .i32) 21 w20 w.heap.size (fun _ => True) v338 y337) := ⟨h0_⟩
            have n1_ : Aside0 (Kd.R k40 40 w20 w.heap.size (fun _ => True) v341 y340) := ⟨h1_⟩
            have n2_ : Aside0 (Kd.R k42 42 w20 w.heap.size (fun _ => True) v347 y346) := ⟨h2_⟩
            have n3_ : Aside0 (Kd.S k30 30 w20 w.heap.size (fun k_ => some k_ ≠ (v338 : Value).ownBlock ∧ some k_ ≠ (v341 : Value).ownBlock ∧ some k_ ≠ (v347 : Value).ownBlock ∧ k_ ≠ gb333) (.slice Ao10 x3_1.length co10) x3_1) := ⟨h3_⟩
            have n4_ : Aside0 (w20.heap[gb333]? = some (.cells #[.int .u8 ((rd_T30 l0 x4_1).f0), .int .i64 ((rd_T30 l0 x4_1).f1), .slice A332_2 ((rd_T30 l0 x4_1).f2).length c332_2, .slice A332_3 ((rd_T30 l0 x4_1).f3).length c332_3, .slice A332_4 ((rd_T30 l0 x4_1).f4).length c332_4] 30 (0, 0))) := ⟨h4_⟩
            have n5_ : Aside0 (Below w.heap.size w w20) := ⟨h5_⟩
            clear HO_3
            clear BK333
            clear HB
            clear h0_ h1_ h2_ h3_ h4_ h5_
            have HO339 := n0_
            have HO342 := n1_
            have HO348 := n2_
            have HO_3 := n3_
            have BK333 := n4_
            have HB := n5_
            clear n0_ n1_ n2_ n3_ n4_ n5_
            have hHeld : w20.cell? ⟨gb333, 0, none⟩ = some (.int .u8 ((rd_T30 l0 x4_1).f0)) ∧ w20.cell? ⟨gb333, 1, none⟩ = some (.int .i64 ((rd_T30 l0 x4_1).f1)) ∧ w20.cell? ⟨gb333, 2, none⟩ = some (.slice A332_2 ((rd_T30 l0 x4_1).f2).length c332_2) ∧ w20.cell? ⟨gb333, 3, none⟩ = some (.slice A332_3 ((rd_T30 l0 x4_1).f3).length c332_3) ∧ w20.cell? ⟨gb333, 4, none⟩ = some (.slice A332_4 ((rd_T30 l0 x4_1).f4).length c332_4) := hS_
            refine norm_ (a' := ?_) ?_ ?_
            rotate_left
            ·simp only [putAll, Act.put, List.setIfInBounds_toArray, List.set_cons_zero, List.set_cons_succ]
             rfl
            refine one_ (i := 12) (N := some 28) #[true, true, true, true, true, true, true, true, true, true, true, true, true, true, true, true, false, false, false, false, false] rfl rfl (one_of HT_.out (by kernel_rfl)) (by decide) (fun K hK => ?_)
            refine Kd.R_append_rows_step k40 (w0 := w) w.heap.size (by rfl) (.tmp 25) (.tmp 27) 27 40 (.agg #[(.int .i64 0), (.int .u8 0), (.int .i64 0), (.int .u64 0), (.string ⟨#[]⟩)]) 48 rfl Try.underlying27 info40 rfl (by decide) (by omega) v341 y340 ((rd_T30 l0 x4_1).f3) _ _ _ (fun _ => True) (fun _ => False) rfl rfl ?aO ?aR (fun _ _ h => h) (fun _ h => h.elim) ?aF ?aB ?aS ?aL ?_
            (case aR => repeat (first | exact (Kd.C_below HR332_3.out HB.out) | (with_reducible refine Kd.C_alloc ?_ _) | (with_reducible refine Kd.C_drewN ?_ _) | (with_reducible refine Kd.C_drew ?_)))
            (case aB => exact (by repeat (first | (with_reducible first | exact HB.out | apply below_alloc | apply pw_below_drewN | apply below_drew1 | refine below_set ?_ GE333.out) | exact HB.out)))
            (case aF => exact (fun _ _ => trivial))
            (case aO => exact (by (with_reducible repeat (first | apply Kd.R_alloc | apply Kd.R_drewN | apply Kd.R_drew)); exact HO342.out))
            (case aS => exact (below_size (by repeat (first | (with_reducible first | exact HB.out | apply below_alloc | apply pw_below_drewN | apply below_drew1 | refine below_set ?_ GE333.out) | exact HB.out))))
            (case aL => have := LMc5.out; omega)
            intro v344 w21 ho hb hg hat
            rw [← Ny343.out] at ho
            have n0_ := Aside0.mk (Kd.S_after (ok := (fun k_ => some k_ ≠ (v338 : Value).ownBlock ∧ some k_ ≠ (v347 : Value).ownBlock ∧ k_ ≠ gb333)) (by (with_reducible repeat (first | apply Kd.S_alloc | apply Kd.S_drewN | apply Kd.S_drew)); exact Kd.S_mono HO_3.out (fun _ hk => ⟨⟨hk.1, ⟨hk.2.2.1, hk.2.2.2⟩⟩, hk.2.1⟩)) hg hat)
            have n1_ := Aside0.mk (blk_grown (g := gb333) (o := .cells #[.int .u8 ((rd_T30 l0 x4_1).f0), .int .i64 ((rd_T30 l0 x4_1).f1), .slice A332_2 ((rd_T30 l0 x4_1).f2).length c332_2, .slice A332_3 ((rd_T30 l0 x4_1).f3).length c332_3, .slice A332_4 ((rd_T30 l0 x4_1).f4).length c332_4] 30 (0, 0)) (by (with_reducible repeat (first | refine blk_drewN ?_ _ | refine blk_drew ?_ | refine blk_alloc ?_ _)); exact BK333.out) hg (Kd.R_ne HO342.out BK333.out (by decide)))
            have n2_ := Aside0.mk (Kd.R_over' (by (with_reducible repeat (first | apply Kd.R_alloc | apply Kd.R_drewN | apply Kd.R_drew)); exact HO339.out) (Kd.R_typed (by (with_reducible repeat (first | apply Kd.R_alloc | apply Kd.R_drewN | apply Kd.R_drew)); exact HO342.out)) (by decide) hg)
            have n3_ := Aside0.mk (Kd.R_over' (by (with_reducible repeat (first | apply Kd.R_alloc | apply Kd.R_drewN | apply Kd.R_drew)); exact HO348.out) (Kd.R_typed (by (with_reducible repeat (first | apply Kd.R_alloc | apply Kd.R_drewN | apply Kd.R_drew)); exact HO342.out)) (by decide) hg)
            have n4_ := Aside0.mk (hb)
            have n5_ := Aside0.mk (ho)
            clear HO_3
            clear BK333
            clear HO339
            clear HO348
            clear HB
            clear HO342
            have HO_3 := n0_
            have BK333 := n1_
            have HO339 := n2_
            have HO348 := n3_
            have HB := n4_
            have HO345 := n5_
            clear n0_ n1_ n2_ n3_ n4_ n5_
            clear ho hb hg hat
            refine hK.out _ _ ⟨(blk_cell BK333.out 0).trans rfl, (blk_cell BK333.out 1).trans rfl, (blk_cell BK333.out 2).trans rfl, (blk_cell BK333.out 3).trans rfl, (blk_cell BK333.out 4).trans rfl⟩ (fun hHeld => ?_)
            clear hK K
            refine norm_ (a' := ?_) ?_ ?_
            rotate_left
            ·show Act.put _ (some 28) _ = _
             simp only [Act.put, List.setIfInBounds_toArray, List.set_cons_zero, List.set_cons_succ, i64_w, i32_w]
             rfl
            exact norm_ (by first | (simp only [putAll, Act.put, List.setIfInBounds_toArray, List.set_cons_zero, List.set_cons_succ]; done) | (simp only [putAll, Act.put, List.setIfInBounds_toArray, List.set_cons_zero, List.set_cons_succ]; rfl)) (hJ5_8_9_12_13 (v335, v338, v341, v344, v347) _ ⟨hHeld, (by (with_reducible repeat (first | apply Kd.R_alloc | apply Kd.R_drewN | apply Kd.R_drew)); exact HO339.out), (by (with_reducible repeat (first | apply Kd.R_alloc | apply Kd.R_drewN | apply Kd.R_drew)); exact HO345.out), (by (with_reducible repeat (first | apply Kd.R_alloc | apply Kd.R_drewN | apply Kd.R_drew)); exact HO348.out), (by (with_reducible repeat (first | apply Kd.S_alloc | apply Kd.S_drewN | apply Kd.S_drew)); exact Kd.S_mono HO_3.out (fun _ hk => ⟨hk.1.1, ⟨hk.2, ⟨hk.1.2.1, hk.1.2.2⟩⟩⟩)), (by (with_reducible repeat (first | refine blk_drewN ?_ _ | refine blk_drew ?_ | refine blk_alloc ?_ _)); exact BK333.out), (by repeat (first | (with_reducible first | exact HB.out | apply below_alloc | apply pw_below_drewN | apply below_drew1 | refine below_set ?_ GE333.out) | exact HB.out))⟩)
          ·skip
           rintro ⟨v335, v338, v341, v344⟩ w19 ⟨hS_, h0_, h1_, h2_, h3_, h4_⟩
           have n0_ : Aside0 (Kd.R (Kd.int .i32) 21 w19 w.heap.size (fun _ => True) v338 y337) := ⟨h0_⟩
           have n1_ : Aside0 (Kd.R k40 40 w19 w.heap.size (fun _ => True) v344 y343) := ⟨h1_⟩
           have n2_ : Aside0 (Kd.S k30 30 w19 w.heap.size (fun k_ => some k_ ≠ (v338 : Value).ownBlock ∧ some k_ ≠ (v344 : Value).ownBlock ∧ k_ ≠ gb333) (.slice Ao10 x3_1.length co10) x3_1) := ⟨h2_⟩
           have n3_ : Aside0 (w19.heap[gb333]? = some (.cells #[.int .u8 ((rd_T30 l0 x4_1).f0), .int .i64 ((rd_T30 l0 x4_1).f1), .slice A332_2 ((rd_T30 l0 x4_1).f2).length c332_2, .slice A332_3 ((rd_T30 l0 x4_1).f3).length c332_3, .slice A332_4 ((rd_T30 l0 x4_1).f4).length c332_4] 30 (0, 0))) := ⟨h3_⟩
           have n4_ : Aside0 (Below w.heap.size w w19) := ⟨h4_⟩
           clear HO_3
           clear BK333
           clear HB
           clear h0_ h1_ h2_ h3_ h4_
           have HO339 := n0_
           have HO345 := n1_
           have HO_3 := n2_
           have BK333 := n3_
           have HB := n4_
           clear n0_ n1_ n2_ n3_ n4_
           have hHeld : w19.cell? ⟨gb333, 0, none⟩ = some (.int .u8 ((rd_T30 l0 x4_1).f0)) ∧ w19.cell? ⟨gb333, 1, none⟩ = some (.int .i64 ((rd_T30 l0 x4_1).f1)) ∧ w19.cell? ⟨gb333, 2, none⟩ = some (.slice A332_2 ((rd_T30 l0 x4_1).f2).length c332_2) ∧ w19.cell? ⟨gb333, 3, none⟩ = some (.slice A332_3 ((rd_T30 l0 x4_1).f3).length c332_3) ∧ w19.cell? ⟨gb333, 4, none⟩ = some (.slice A332_4 ((rd_T30 l0 x4_1).f4).length c332_4) := hS_
           refine norm_ (a' := ?_) ?_ ?_
           rotate_left
           ·simp only [putAll, Act.put, List.setIfInBounds_toArray, List.set_cons_zero, List.set_cons_succ]
            rfl
           refine one_ (i := 13) (N := some 29) #[true, true, true, true, true, true, true, true, true, true, true, true, true, true, true, true, false, false, false, false, false] rfl rfl (one_of HT_.out (by kernel_rfl)) (by decide) (fun K hK => ?_)
           refine Kd.R_lit_step k42 _ 42 ?hg (N := 29) ?hd (xs := ([] : List (S42))) (inner := []) (ok := fun _ => True) (okp := fun _ => True) ?hr ?hp (fun _ hk => hk) trivial (Below.refl _ _) (Nat.le_refl _) (by simp) ?_; (case hd => rfl); (case hg => rfl); (case hr => first | (go_simp; done) | (go_simp; rfl)); (case hp => exact (Reps.none _ _))
           intro v347 w20 ho21 hb hg_ hnew_
           clear hg_ hnew_
           (first | rw [← Ny346.out] at ho21 | (simp only [Int.reduceToNat] at ho21; rw [← Ny346.out] at ho21))
           have n0_ := Aside0.mk (Kd.S_elder' (by (with_reducible repeat (first | apply Kd.S_alloc | apply Kd.S_drewN | apply Kd.S_drew)); exact HO_3.out) (Kd.R_base ho21) hb)
           have n1_ := Aside0.mk (Kd.R_below (by (with_reducible repeat (first | apply Kd.R_alloc | apply Kd.R_drewN | apply Kd.R_drew)); exact HO339.out) hb)
           have n2_ := Aside0.mk (Kd.R_below (by (with_reducible repeat (first | apply Kd.R_alloc | apply Kd.R_drewN | apply Kd.R_drew)); exact HO345.out) hb)
           have n3_ := Aside0.mk (Kd.R_lower ho21 (below_size (by repeat (first | (with_reducible first | exact HB.out | apply below_alloc | apply pw_below_drewN | apply below_drew1 | refine below_set ?_ GE333.out) | exact HB.out))))
           have n4_ := Aside0.mk (blk_below (g := gb333) (o := .cells #[.int .u8 ((rd_T30 l0 x4_1).f0), .int .i64 ((rd_T30 l0 x4_1).f1), .slice A332_2 ((rd_T30 l0 x4_1).f2).length c332_2, .slice A332_3 ((rd_T30 l0 x4_1).f3).length c332_3, .slice A332_4 ((rd_T30 l0 x4_1).f4).length c332_4] 30 (0, 0)) (by (with_reducible repeat (first | refine blk_drewN ?_ _ | refine blk_drew ?_ | refine blk_alloc ?_ _)); exact BK333.out) hb)
           have n5_ := Aside0.mk (below_step (by repeat (first | (with_reducible first | exact HB.out | apply below_alloc | apply pw_below_drewN | apply below_drew1 | refine below_set ?_ GE333.out) | exact HB.out)) hb)
           clear HO_3
           clear HO339
           clear HO345
           clear BK333
           clear HB
           have HO_3 := n0_
           have HO339 := n1_
           have HO345 := n2_
           have HO348 := n3_
           have BK333 := n4_
           have HB := n5_
           clear n0_ n1_ n2_ n3_ n4_ n5_
           clear hb ho21
           refine hK.out _ _ ⟨(blk_cell BK333.out 0).trans rfl, (blk_cell BK333.out 1).trans rfl, (blk_cell BK333.out 2).trans rfl, (blk_cell BK333.out 3).trans rfl, (blk_cell BK333.out 4).trans rfl⟩ (fun hHeld => ?_)
           clear hK K
           refine norm_ (a' := ?_) ?_ ?_
           rotate_left
           ·show Act.put _ (some 29) _ = _
            simp only [Act.put, List.setIfInBounds_toArray, List.set_cons_zero, List.set_cons_succ, i64_w, i32_w]
            rfl
           exact norm_ (by first | (simp only [putAll, Act.put, List.setIfInBounds_toArray, List.set_cons_zero, List.set_cons_succ]; done) | (simp only [putAll, Act.put, List.setIfInBounds_toArray, List.set_cons_zero, List.set_cons_succ]; rfl)) (hJ5_8_9_12_13 (v335, v338, v341, v344, v347) _ ⟨hHeld, (by (with_reducible repeat (first | apply Kd.R_alloc | apply Kd.R_drewN | apply Kd.R_drew)); exact HO339.out), (by (with_reducible repeat (first | apply Kd.R_alloc | apply Kd.R_drewN | apply Kd.R_drew)); exact HO345.out), (by (with_reducible repeat (first | apply Kd.R_alloc | apply Kd.R_drewN | apply Kd.R_drew)); exact HO348.out), (by (with_reducible repeat (first | apply Kd.S_alloc | apply Kd.S_drewN | apply Kd.S_drew)); exact Kd.S_mono HO_3.out (fun _ hk => ⟨hk.1.1, ⟨hk.1.2.1, ⟨hk.2, hk.1.2.2⟩⟩⟩)), (by (with_reducible repeat (first | refine blk_drewN ?_ _ | refine blk_drew ?_ | refine blk_alloc ?_ _)); exact BK333.out), (by repeat (first | (with_reducible first | exact HB.out | apply below_alloc | apply pw_below_drewN | apply below_drew1 | refine below_set ?_ GE333.out) | exact HB.out))⟩)
         rintro ⟨v335, v338, v341, v344, v347⟩ w21 ⟨hS_, h0_, h1_, h2_, h3_, h4_, h5_⟩
         have n0_ : Aside0 (Kd.R (Kd.int .i32) 21 w21 w.heap.size (fun _ => True) v338 y337) := ⟨h0_⟩
         have n1_ : Aside0 (Kd.R k40 40 w21 w.heap.size (fun _ => True) v344 y343) := ⟨h1_⟩
         have n2_ : Aside0 (Kd.R k42 42 w21 w.heap.size (fun _ => True) v347 y346) := ⟨h2_⟩
         have n3_ : Aside0 (Kd.S k30 30 w21 w.heap.size (fun k_ => some k_ ≠ (v338 : Value).ownBlock ∧ some k_ ≠ (v344 : Value).ownBlock ∧ some k_ ≠ (v347 : Value).ownBlock ∧ k_ ≠ gb333) (.slice Ao10 x3_1.length co10) x3_1) := ⟨h3_⟩
         have n4_ : Aside0 (w21.heap[gb333]? = some (.cells #[.int .u8 ((rd_T30 l0 x4_1).f0), .int .i64 ((rd_T30 l0 x4_1).f1), .slice A332_2 ((rd_T30 l0 x4_1).f2).length c332_2, .slice A332_3 ((rd_T30 l0 x4_1).f3).length c332_3, .slice A332_4 ((rd_T30 l0 x4_1).f4).length c332_4] 30 (0, 0))) := ⟨h4_⟩
         have n5_ : Aside0 (Below w.heap.size w w21) := ⟨h5_⟩
         clear HO_3
         clear BK333
         clear HB
         clear h0_ h1_ h2_ h3_ h4_ h5_
         have HO339 := n0_
         have HO345 := n1_
         have HO348 := n2_
         have HO_3 := n3_
         have BK333 := n4_
         have HB := n5_
         clear n0_ n1_ n2_ n3_ n4_ n5_
         have hHeld : w21.cell? ⟨gb333, 0, none⟩ = some (.int .u8 ((rd_T30 l0 x4_1).f0)) ∧ w21.cell? ⟨gb333, 1, none⟩ = some (.int .i64 ((rd_T30 l0 x4_1).f1)) ∧ w21.cell? ⟨gb333, 2, none⟩ = some (.slice A332_2 ((rd_T30 l0 x4_1).f2).length c332_2) ∧ w21.cell? ⟨gb333, 3, none⟩ = some (.slice A332_3 ((rd_T30 l0 x4_1).f3).length c332_3) ∧ w21.cell? ⟨gb333, 4, none⟩ = some (.slice A332_4 ((rd_T30 l0 x4_1).f4).length c332_4) := hS_
         refine norm_ (a' := ?_) ?_ ?_
         rotate_left
         ·simp only [putAll, Act.put, List.setIfInBounds_toArray, List.set_cons_zero, List.set_cons_succ]
          rfl
         refine one_ (i := 16) (N := some 32) #[true, true, true, true, true, true, true, true, true, true, true, true, true, true, true, true, true, false, false, false, false] rfl rfl (one_of HT_.out (by kernel_rfl)) (by decide) (fun K hK => ?_)
         refine Kd.R_append_rows_step k42 (w0 := w) w.heap.size (by rfl) (.tmp 29) (.tmp 31) 28 42 (.agg #[(.int .i64 0), (.bool false), (.int .u8 0), (.int .i64 0), (.int .u64 0), (.string ⟨#[]⟩)]) 56 rfl Try.underlying28 info42 rfl (by decide) (by omega) v347 y346 ((rd_T30 l0 x4_1).f4) _ _ _ (fun _ => True) (fun _ => False) rfl rfl ?aO ?aR (fun _ _ h => h) (fun _ h => h.elim) ?aF ?aB ?aS ?aL ?_
         (case aR => repeat (first | exact (Kd.C_below HR332_4.out HB.out) | (with_reducible refine Kd.C_alloc ?_ _) | (with_reducible refine Kd.C_drewN ?_ _) | (with_reducible refine Kd.C_drew ?_)))
         (case aB => exact (by repeat (first | (with_reducible first | exact HB.out | apply below_alloc | apply pw_below_drewN | apply below_drew1 | refine below_set ?_ GE333.out) | exact HB.out)))
         (case aF => exact (fun _ _ => trivial))
         (case aO => exact (by (with_reducible repeat (first | apply Kd.R_alloc | apply Kd.R_drewN | apply Kd.R_drew)); exact HO348.out))
         (case aS => exact (below_size (by repeat (first | (with_reducible first | exact HB.out | apply below_alloc | apply pw_below_drewN | apply below_drew1 | refine below_set ?_ GE333.out) | exact HB.out))))
         (case aL => have := LMc6.out; omega)
         intro v350 w22 ho hb hg hat
         rw [← Ny349.out] at ho
         have n0_ := Aside0.mk (Kd.S_after (ok := (fun k_ => some k_ ≠ (v338 : Value).ownBlock ∧ some k_ ≠ (v344 : Value).ownBlock ∧ k_ ≠ gb333)) (by (with_reducible repeat (first | apply Kd.S_alloc | apply Kd.S_drewN | apply Kd.S_drew)); exact Kd.S_mono HO_3.out (fun _ hk => ⟨⟨hk.1, ⟨hk.2.1, hk.2.2.2⟩⟩, hk.2.2.1⟩)) hg hat)
         have n1_ := Aside0.mk (blk_grown (g := gb333) (o := .cells #[.int .u8 ((rd_T30 l0 x4_1).f0), .int .i64 ((rd_T30 l0 x4_1).f1), .slice A332_2 ((rd_T30 l0 x4_1).f2).length c332_2, .slice A332_3 ((rd_T30 l0 x4_1).f3).length c332_3, .slice A332_4 ((rd_T30 l0 x4_1).f4).length c332_4] 30 (0, 0)) (by (with_reducible repeat (first | refine blk_drewN ?_ _ | refine blk_drew ?_ | refine blk_alloc ?_ _)); exact BK333.out) hg (Kd.R_ne HO348.out BK333.out (by decide)))
         have n2_ := Aside0.mk (Kd.R_over' (by (with_reducible repeat (first | apply Kd.R_alloc | apply Kd.R_drewN | apply Kd.R_drew)); exact HO339.out) (Kd.R_typed (by (with_reducible repeat (first | apply Kd.R_alloc | apply Kd.R_drewN | apply Kd.R_drew)); exact HO348.out)) (by decide) hg)
         have n3_ := Aside0.mk (Kd.R_over' (by (with_reducible repeat (first | apply Kd.R_alloc | apply Kd.R_drewN | apply Kd.R_drew)); exact HO345.out) (Kd.R_typed (by (with_reducible repeat (first | apply Kd.R_alloc | apply Kd.R_drewN | apply Kd.R_drew)); exact HO348.out)) (by decide) hg)
         have n4_ := Aside0.mk (hb)
         have n5_ := Aside0.mk (ho)
         clear HO_3
         clear BK333
         clear HO339
         clear HO345
         clear HB
         clear HO348
         have HO_3 := n0_
         have BK333 := n1_
         have HO339 := n2_
         have HO345 := n3_
         have HB := n4_
         have HO351 := n5_
         clear n0_ n1_ n2_ n3_ n4_ n5_
         clear ho hb hg hat
         obtain ⟨Ao23, co23, eo23⟩ := Kd.R_slice HO351.out
         (first | subst eo23 | (injection eo23 with f1_ f2_ f3_; have f4_ := f1_.symm; have f5_ := f3_.symm; clear f1_ f2_ f3_; subst f4_; subst f5_))
         obtain ⟨Ao24, co24, eo24⟩ := Kd.R_slice HO345.out
         (first | subst eo24 | (injection eo24 with f1_ f2_ f3_; have f4_ := f1_.symm; have f5_ := f3_.symm; clear f1_ f2_ f3_; subst f4_; subst f5_))
         obtain ⟨Ao25, co25, eo25⟩ := Kd.R_slice HO339.out
         (first | subst eo25 | (injection eo25 with f1_ f2_ f3_; have f4_ := f1_.symm; have f5_ := f3_.symm; clear f1_ f2_ f3_; subst f4_; subst f5_))
         refine hK.out _ _ ⟨(blk_cell BK333.out 0).trans rfl, (blk_cell BK333.out 1).trans rfl, (blk_cell BK333.out 2).trans rfl, (blk_cell BK333.out 3).trans rfl, (blk_cell BK333.out 4).trans rfl⟩ (fun hHeld => ?_)
         clear hK K
         refine norm_ (a' := ?_) ?_ ?_
         rotate_left
         ·show Act.put _ (some 32) _ = _
          simp only [Act.put, List.setIfInBounds_toArray, List.set_cons_zero, List.set_cons_succ, i64_w, i32_w]
          rfl
         refine pure_ (i := 17) (N := some 33) (v := ?_) (a' := ?_) #[true, true, true, true, true, true, true, true, true, true, true, true, true, true, true, true, true, true, false, false, false] rfl rfl (any_of HT_.out (by kernel_rfl)) (fun _ _ _ h => h) (Or.inl ⟨by rfl, ?_⟩) ?_ ?_
         rotate_left
         ·intro w'
          go_simp
          with_reducible rfl
         rotate_left
         ·simp only [Act.put, List.setIfInBounds_toArray, List.set_cons_zero, List.set_cons_succ, i64_w, i32_w]
          rfl
         refine one_ (i := 18) (N := some 34) #[true, true, true, true, true, true, true, true, true, true, true, true, true, true, true, true, true, true, true, false, false] rfl rfl (one_of HT_.out (by kernel_rfl)) (by decide) (fun K hK => ?_)
         refine value_ (w1 := ?_) (v := ?_) (by rfl) rfl ?_ ?_
         rotate_left 2
         ·go_simp
          constructor
          ·rfl
          ·rfl
         refine hK.out _ _ ⟨(blk_cell (blk_alloc BK333.out _) 0).trans rfl, (blk_cell (blk_alloc BK333.out _) 1).trans rfl, (blk_cell (blk_alloc BK333.out _) 2).trans rfl, (blk_cell (blk_alloc BK333.out _) 3).trans rfl, (blk_cell (blk_alloc BK333.out _) 4).trans rfl⟩ (fun hHeld => ?_)
         clear hK K
         refine norm_ (a' := ?_) ?_ ?_
         rotate_left
         ·show Act.put _ (some 34) _ = _
          simp only [Act.put, List.setIfInBounds_toArray, List.set_cons_zero, List.set_cons_succ, i64_w, i32_w]
          rfl
         refine one_ (i := 19) (N := some 35) #[true, true, true, true, true, true, true, true, true, true, true, true, true, true, true, true, true, true, true, true, false] rfl rfl (one_of HT_.out (by kernel_rfl)) (by decide) (fun K hK => ?_)
         refine Kd.S_append_step k30 (w0 := w) w.heap.size (by rfl) (.tmp 16) (.tmp 34) 23 30 (.agg #[(.int .u8 0), (.int .i64 0), (.slice none 0 0), (.slice none 0 0), (.slice none 0 0)]) 88 rfl Try.underlying23 info30 rfl (by decide) (by omega) (.slice Ao10 x3_1.length co10) x3_1 (⟨(rd_T30 l0 x4_1).f0, (rd_T30 l0 x4_1).f1, y337, y343, y349⟩ : S30) [.int .u8 ((rd_T30 l0 x4_1).f0), .int .i64 ((rd_T30 l0 x4_1).f1), .slice Ao25 y337.length co25, .slice Ao24 y343.length co24, .slice Ao23 y349.length co23] (fun k_ => k_ ≠ gb333) (fun k_ => some k_ = (.slice Ao25 y337.length co25 : Value).ownBlock ∨ some k_ = (.slice Ao24 y343.length co24 : Value).ownBlock ∨ some k_ = (.slice Ao23 y349.length co23 : Value).ownBlock) rfl rfl ?aP (fun k_ hk_ => hk_.elim (fun h_ => ((Kd.R_mono (ok' := fun k_ => ((fun k_ => k_ ≠ gb333)) k_ ∧ some k_ ≠ (.slice Ao10 x3_1.length co10 : Value).ownBlock) (Kd.R_types (Kd.R_apart' (HO339.out) (Kd.S_typed HO_3.out) (by decide)) BK333.out (by decide)) (fun k_ hk => ⟨hk.2, hk.1.2⟩))).1 k_ h_.symm) (fun h_ => h_.elim (fun h_ => ((Kd.R_mono (ok' := fun k_ => ((fun k_ => k_ ≠ gb333)) k_ ∧ some k_ ≠ (.slice Ao10 x3_1.length co10 : Value).ownBlock) (Kd.R_types (Kd.R_apart' (HO345.out) (Kd.S_typed HO_3.out) (by decide)) BK333.out (by decide)) (fun k_ hk => ⟨hk.2, hk.1.2⟩))).1 k_ h_.symm) (fun h_ => ((Kd.R_mono (ok' := fun k_ => ((fun k_ => k_ ≠ gb333)) k_ ∧ some k_ ≠ (.slice Ao10 x3_1.length co10 : Value).ownBlock) (Kd.R_types (Kd.R_apart' (HO351.out) (Kd.S_typed HO_3.out) (by decide)) BK333.out (by decide)) (fun k_ hk => ⟨hk.2, hk.1.2⟩))).1 k_ h_.symm))) ?aF ?aO ?aB ?aS ?aL ?_
         (case aP => exact k30_mkM _ _ _ (⟨(rd_T30 l0 x4_1).f0, (rd_T30 l0 x4_1).f1, y337, y343, y349⟩ : S30) (Kd.R_mono (Kd.R_tight rfl (Kd.R_mono (ok' := fun k_ => ((fun k_ => k_ ≠ gb333)) k_ ∧ some k_ ≠ (.slice Ao10 x3_1.length co10 : Value).ownBlock) (Kd.R_types (Kd.R_apart' (HO339.out) (Kd.S_typed HO_3.out) (by decide)) BK333.out (by decide)) (fun k_ hk => ⟨hk.2, hk.1.2⟩))) (fun _ h_ => Or.inl h_)) (Kd.R_mono (Kd.R_tight rfl (Kd.R_mono (ok' := fun k_ => ((fun k_ => k_ ≠ gb333)) k_ ∧ some k_ ≠ (.slice Ao10 x3_1.length co10 : Value).ownBlock) (Kd.R_types (Kd.R_apart' (HO345.out) (Kd.S_typed HO_3.out) (by decide)) BK333.out (by decide)) (fun k_ hk => ⟨hk.2, hk.1.2⟩))) (fun _ h_ => Or.inr (Or.inl h_))) (Kd.R_mono (Kd.R_tight rfl (Kd.R_mono (ok' := fun k_ => ((fun k_ => k_ ≠ gb333)) k_ ∧ some k_ ≠ (.slice Ao10 x3_1.length co10 : Value).ownBlock) (Kd.R_types (Kd.R_apart' (HO351.out) (Kd.S_typed HO_3.out) (by decide)) BK333.out (by decide)) (fun k_ hk => ⟨hk.2, hk.1.2⟩))) (fun _ h_ => Or.inr (Or.inr (h_)))))
         (case aB => exact (by repeat (first | (with_reducible first | exact HB.out | apply below_alloc | apply pw_below_drewN | apply below_drew1 | refine below_set ?_ GE333.out) | exact HB.out)))
         (case aF => exact (fun k_ hk => Kd.freshB (g := gb333) (o := .cells #[.int .u8 ((rd_T30 l0 x4_1).f0), .int .i64 ((rd_T30 l0 x4_1).f1), .slice A332_2 ((rd_T30 l0 x4_1).f2).length c332_2, .slice A332_3 ((rd_T30 l0 x4_1).f3).length c332_3, .slice A332_4 ((rd_T30 l0 x4_1).f4).length c332_4] 30 (0, 0)) (by (with_reducible repeat (first | refine blk_drewN ?_ _ | refine blk_drew ?_ | refine blk_alloc ?_ _)); exact BK333.out) k_ hk))
         (case aO => exact (by (with_reducible repeat (first | apply Kd.S_alloc | apply Kd.S_drewN | apply Kd.S_drew)); exact Kd.S_mono HO_3.out (fun k_ hk => ⟨hk.1.2.2, fun e_ => e_.elim (fun h_ => hk.1.1 h_) (fun h_ => h_.elim (fun h_ => hk.1.2.1 h_) (fun h_ => hk.2 h_))⟩)))
         (case aS => exact (below_size (by repeat (first | (with_reducible first | exact HB.out | apply below_alloc | apply pw_below_drewN | apply below_drew1 | refine below_set ?_ GE333.out) | exact HB.out))))
         (case aL => have := LMc7.out; omega)
         intro v353 w26 ho hb hg hat
         rw [← Ny352.out] at ho
         have n0_ := Aside0.mk (blk_grown (g := gb333) (o := .cells #[.int .u8 ((rd_T30 l0 x4_1).f0), .int .i64 ((rd_T30 l0 x4_1).f1), .slice A332_2 ((rd_T30 l0 x4_1).f2).length c332_2, .slice A332_3 ((rd_T30 l0 x4_1).f3).length c332_3, .slice A332_4 ((rd_T30 l0 x4_1).f4).length c332_4] 30 (0, 0)) (by (with_reducible repeat (first | refine blk_drewN ?_ _ | refine blk_drew ?_ | refine blk_alloc ?_ _)); exact BK333.out) hg (Kd.S_away HO_3.out (fun _ hk => hk.1.2.2)))
         have n1_ := Aside0.mk (hb)
         have n2_ := Aside0.mk (ho)
         clear BK333
         clear HB
         clear HO_3
         clear HO339
         clear HO345
         clear HO351
         have BK333 := n0_
         have HB := n1_
         have HO354 := n2_
         clear n0_ n1_ n2_
         clear ho hb hg hat
         refine hK.out _ _ ⟨(blk_cell BK333.out 0).trans rfl, (blk_cell BK333.out 1).trans rfl, (blk_cell BK333.out 2).trans rfl, (blk_cell BK333.out 3).trans rfl, (blk_cell BK333.out 4).trans rfl⟩ (fun hHeld => ?_)
         clear hK K
         refine norm_ (a' := ?_) ?_ ?_
         rotate_left
         ·show Act.put _ (some 35) _ = _
          simp only [Act.put, List.setIfInBounds_toArray, List.set_cons_zero, List.set_cons_succ, i64_w, i32_w]
          rfl
         refine pure_ (i := 20) (N := some 3) (v := ?_) (a' := ?_) #[true, true, true, true, true, true, true, true, true, true, true, true, true, true, true, true, true, true, true, true, true] rfl rfl (any_of HT_.out (by kernel_rfl)) (fun _ _ _ h => h) (Or.inl ⟨by rfl, ?_⟩) ?_ ?_
         rotate_left
         ·intro w'
          go_simp
          with_reducible rfl
         rotate_left
         ·simp only [Act.put, List.setIfInBounds_toArray, List.set_cons_zero, List.set_cons_succ, i64_w, i32_w]
          rfl
         refine done_ (done_of HT_.out (by kernel_rfl)) ?_
         try go_wp2
         go_roundg k1
         case measure => have := HK1.out; omega
         case rel => exact ⟨(y352), (wrap64 (x4_1 + 1)), (by first | rfl | (simp; done) | (simp [*]; done)), H', ⟨by have := HK1.out; omega⟩, ⟨by (with_reducible repeat (first | apply Kd.S_alloc | apply Kd.S_drewN | apply Kd.S_drew)); exact Kd.S_mono HO354.out (fun _ hk => trivial)⟩, ⟨by repeat (first | (with_reducible first | exact HB.out | apply below_alloc | apply pw_below_drewN | apply below_drew1 | refine below_set ?_ GE333.out) | exact HB.out)⟩⟩
        ·rw [if_neg c7] at H
         exact absurd H (by simp)
       ·rw [if_neg c6] at H
        exact absurd H (by simp)
      ·rw [if_neg c5] at H
       exact absurd H (by simp)
     ·rw [if_neg c4] at H
      exact absurd H (by simp)
    ·rw [if_neg c3] at H
     exact absurd H (by simp)
   ·rw [if_neg c2] at H
    have c2b0 : decide (x4_1 < (l0.length : Int)) = false := decide_eq_false c2
    clear c2
    obtain rfl := Option.some.inj H
    go_wp2
    go_ret
    exact ⟨_, by first | rfl | (simp [errW_none, errW_some] <;> rfl) | (simp [*, errW_none, errW_some] <;> rfl), by (with_reducible repeat (first | apply Kd.S_alloc | apply Kd.S_drewN | apply Kd.S_drew)); exact HO_3.out, by repeat (first | (with_reducible first | exact HB.out | apply below_alloc | apply pw_below_drewN | apply below_drew1) | exact HB.out | exact Below.refl _ _)⟩
end Go.Proofs.Ytmjeoknamoegpaa.P
namespace Go.Proofs.Ytmjeoknamoegpaa.P
open Go.RowKit Go.Proofs.YtmjeoknamoegpaaW.PrintWords Go.Proofs.YtmjeoknamoegpaaW.PrintLast Go.Proofs.YtmjeoknamoegpaaW.PrintMore
attribute [local go_sem] max2_int min2_int max_two min_two max_three min_three max_four min_four   -- for this text's walks alone
set_option linter.unusedVariables false
set_option linter.unusedSimpArgs false
theorem eqA38 (d : Nat) (w : World) (x0 y0 : Int) (x1 y1 : Int) (x2 y2 : Int) (x3 y3 : ByteArray) :
  (Op.equalIn (d + 2) 38 (.agg #[.int .u8 x0, .int .i64 x1, .int .u64 x2, .string x3]) (.agg #[.int .u8 y0, .int .i64 y1, .int .u64 y2, .string y3])).run Try.prog w = .ok (x0 == y0 && (x1 == y1 && (x2 == y2 && (x3.toList == y3.toList)))) w := by
 refine eqA_of Try.underlying38 (by kernel_rfl) ?_
 refine eqf_cons (by rfl) (by go_simp; rfl) (by go_simp; rfl) (by go_simp) ?_
 refine eqf_cons (by rfl) (by go_simp; rfl) (by go_simp; rfl) (by go_simp) ?_
 refine eqf_cons (by rfl) (by go_simp; rfl) (by go_simp; rfl) (by go_simp) ?_
 exact eqf_last (by rfl) (by go_simp; rfl) (by go_simp; rfl) (by go_simp)
end Go.Proofs.Ytmjeoknamoegpaa.P
namespace Go.Proofs.Ytmjeoknamoegpaa.P
open Go.RowKit Go.Proofs.YtmjeoknamoegpaaW.PrintWords Go.Proofs.YtmjeoknamoegpaaW.PrintLast Go.Proofs.YtmjeoknamoegpaaW.PrintMore
attribute [local go_sem] max2_int min2_int max_two min_two max_three min_three max_four min_four   -- for this text's walks alone
set_option linter.unusedVariables false
set_option linter.unusedSimpArgs false
theorem eqA40 (d : Nat) (w : World) (x0 y0 : Int) (x1 y1 : Int) (x2 y2 : Int) (x3 y3 : Int) (x4 y4 : ByteArray) :
  (Op.equalIn (d + 3) 40 (.agg #[.int .i64 x0, .int .u8 x1, .int .i64 x2, .int .u64 x3, .string x4]) (.agg #[.int .i64 y0, .int .u8 y1, .int .i64 y2, .int .u64 y3, .string y4])).run Try.prog w = .ok (x0 == y0 && ((x1 == y1 && (x2 == y2 && (x3 == y3 && (x4.toList == y4.toList)))))) w := by
 refine eqA_of Try.underlying40 (by kernel_rfl) ?_
 refine eqf_cons (by rfl) (by go_simp; rfl) (by go_simp; rfl) (by go_simp) ?_
 exact eqf_last (by rfl) (by go_simp) (by go_simp) (eqA38 (d + 0) w _ _ _ _ _ _ _ _)
end Go.Proofs.Ytmjeoknamoegpaa.P
namespace Go.Proofs.Ytmjeoknamoegpaa.P
open Go.RowKit Go.Proofs.YtmjeoknamoegpaaW.PrintWords Go.Proofs.YtmjeoknamoegpaaW.PrintLast Go.Proofs.YtmjeoknamoegpaaW.PrintMore
attribute [local go_sem] max2_int min2_int max_two min_two max_three min_three max_four min_four   -- for this text's walks alone
set_option linter.unusedVariables false
set_option linter.unusedSimpArgs false
theorem eqA42 (d : Nat) (w : World) (x0 y0 : Int) (x1 y1 : Bool) (x2 y2 : Int) (x3 y3 : Int) (x4 y4 : Int) (x5 y5 : ByteArray) :
  (Op.equalIn (d + 3) 42 (.agg #[.int .i64 x0, .bool x1, .int .u8 x2, .int .i64 x3, .int .u64 x4, .string x5]) (.agg #[.int .i64 y0, .bool y1, .int .u8 y2, .int .i64 y3, .int .u64 y4, .string y5])).run Try.prog w = .ok (x0 == y0 && (x1 == y1 && ((x2 == y2 && (x3 == y3 && (x4 == y4 && (x5.toList == y5.toList))))))) w := by
 refine eqA_of Try.underlying42 (by kernel_rfl) ?_
 refine eqf_cons (by rfl) (by go_simp; rfl) (by go_simp; rfl) (by go_simp) ?_
 refine eqf_cons (by rfl) (by go_simp; rfl) (by go_simp; rfl) (by go_simp) ?_
 exact eqf_last (by rfl) (by go_simp) (by go_simp) (eqA38 (d + 0) w _ _ _ _ _ _ _ _)
end Go.Proofs.Ytmjeoknamoegpaa.P
