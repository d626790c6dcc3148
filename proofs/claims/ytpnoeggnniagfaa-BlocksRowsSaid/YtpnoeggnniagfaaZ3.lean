-- several texts in one: Px3 Px4 Q1 Q2 PureBlocksCells Px5 Q3 Px6 PureBlocksPlaces Q4 PureBlocksCuts Px7
import Derived.Test.YtpnoeggnniagfaaZ1
import Derived.Test.YtpnoeggnniagfaaZ2
namespace Go.Proofs.Ytpnoeggnniagfaa.P
open Go.RowKit Go.Proofs.YtpnoeggnniagfaaW.PrintWords Go.Proofs.YtpnoeggnniagfaaW.PrintLast Go.Proofs.YtpnoeggnniagfaaW.PrintMore
attribute [local go_sem] max2_int min2_int max_two min_two max_three min_three max_four min_four   -- for this text's walks alone
set_option linter.unusedVariables false
set_option linter.unusedSimpArgs false
attribute [local go_sem high] eqA46
/-! ### blocks_Join: function 11 -/
def blocks_Join.l0 : Nat → List (S34) → List (S34) → Int → Int → Option ((List (S34)))
  | 0, _, _, _, _ => none
  | k + 1, x3, x6, x7, x8 => if x8 < x7 then (if 0 ≤ x8 then (if x8 < (x6.length : Int) then ((blocks_add.f k x3 ((rd_T34 x6 x8).f0) ((rd_T34 x6 x8).f1)).bind fun t153 => (blocks_Join.l0 k t153 x6 x7 (wrap64 (x8 + 1)))) else (none)) else (none)) else (some x3)
def blocks_Join.f (k : Nat) (l0 : List (S34)) : Option ((List (S34))) := blocks_Join.l0 k ([] : List (S34)) l0 (l0.length : Int) 0
set_option maxHeartbeats 8000000 in
set_option maxRecDepth 100000 in
theorem blocks_Join.calls (k : Nat) (A0 : Option Addr) (c0 : Nat) (l0 : List (S34)) (r : List (S34)) (w : World) (hr0 : Kd.C k34 w A0 l0.length l0) (hc0 : l0.length ≤ c0) (h : blocks_Join.f k l0 = some r) :
    Calls Try.prog 11 #[.slice A0 l0.length c0] w fun e w' => ∃ v0_ : Value, e = .returned (v0_) ∧ Kd.S k34 34 w' w.heap.size (fun _ => True) v0_ r ∧ Below w.heap.size w w' := by
  have hu34 := Try.underlying34
  have HR0 := Aside0.mk hr0
  have HC0 := Aside0.mk hc0
  clear hr0 hc0
  have HB := Aside0.mk (Below.refl w.heap.size w)
  have H : (blocks_Join.l0 k ([] : List (S34)) l0 (l0.length : Int) 0) = some r := h
  clear h
  have H' := Aside0.mk H
  clear H
  go_enter Try.func11, Try.ntmps11
  go_wp2
  go_loopg [3, 8] k (fun kq v3 v8 w' => ∃ (x3_1 : List (S34)) (x8_1 : Int), v8 = .int .i64 x8_1 ∧ Aside0 (blocks_Join.l0 kq x3_1 l0 (l0.length : Int) x8_1 = some r) ∧ Aside0 (kq ≤ k) ∧ Aside0 (Kd.S k34 34 w' w.heap.size (fun _ => True) v3 x3_1) ∧ Aside0 (Below w.heap.size w w'))
  case atStart => exact ⟨(([] : List (S34))), (0), (by first | rfl | (simp; done) | (simp [*]; done)), H', ⟨Nat.le_refl _⟩, ⟨by first | exact Kd.S_nil _ _ _ _ _ | exact Kd.N_nil _ _ _ _ _ | exact Kd.V_nil _ _ _ _ _ | exact Kd.Q_nil _ _ _ _ _ | exact Kd.R_nil _ _ _ _ _⟩, ⟨by repeat (first | (with_reducible first | exact HB.out | apply below_alloc | apply pw_below_drewN | apply below_drew1) | exact HB.out | exact Below.refl _ _)⟩⟩
  case round =>
    clear H'
    try clear c1
    obtain ⟨x3_1, x8_1, rfl, HA, HK1, HO_3, HB⟩ := hrel
    cases gk with
    | zero => exact absurd HA.out (by simp [blocks_Join.l0])
    | succ k1 =>
      have H := HA.out
      clear HA
      simp only [blocks_Join.l0] at H
      by_cases c2 : x8_1 < (l0.length : Int)
      · rw [if_pos c2] at H
        have c2b0 : decide (x8_1 < (l0.length : Int)) = true := decide_eq_true c2
        clear c2
        by_cases c3 : 0 ≤ x8_1
        · rw [if_pos c3] at H
          have c3b0 : decide (0 ≤ x8_1) = true := decide_eq_true c3
          clear c3
          by_cases c4 : x8_1 < (l0.length : Int)
          · rw [if_pos c4] at H
            have c4b0 : decide (x8_1 < (l0.length : Int)) = true := decide_eq_true c4
            clear c4
            replace H := Option.bind_eq_some_iff.mp H
            obtain ⟨t153, A50, H⟩ := H
            replace H : (blocks_Join.l0 k1 t153 l0 (l0.length : Int) (wrap64 (x8_1 + 1))) = some r := H
            have A5 := Aside0.mk A50
            clear A50
            have H' := Aside0.mk H
            clear H
            have p151 : 0 ≤ (x8_1 : Int) := of_decide_eq_true (by first | (with_reducible assumption) | assumption)
            have q151 : x8_1 < (l0.length : Int) := of_decide_eq_true (by first | (with_reducible assumption) | assumption)
            obtain ⟨ad151, A151_1, c151_1, e151, hx151_0, hx151_1, hl151_1, hi151_1⟩ := at_T34 HR0.out x8_1 p151 q151
            cases e151
            replace hx151_0 := (HB.out.cell (World.block_lt_of_cell? w _ hx151_0)).trans hx151_0
            replace hx151_1 := (HB.out.cell (World.block_lt_of_cell? w _ hx151_1)).trans hx151_1
            have HR151_1 := Aside0.mk hi151_1
            have HC151_1 := Aside0.mk hl151_1
            clear hi151_1 hl151_1
            replace p151 := eq_true p151
            replace q151 := eq_true q151
            go_wp2_with (first | ((with_reducible refine gate_dst (N := 5) rfl ?_); refine box_event ?hg (N := 5) ?hd (cs := #[.int .i64 0, .slice none 0 0]) (t := 34) ?hr ?_; (case hd => rfl); (case hg => rfl); (case hr => first | (go_simp; done) | (go_simp; rfl)); intro gb152 hg w6 hbox hb; have n0_ := Aside0.mk (Kd.S_below (Kd.S_elderB (by (with_reducible repeat (first | apply Kd.S_alloc | apply Kd.S_drewN | apply Kd.S_drew)); exact HO_3.out) gb152 (Nat.le_of_eq hg.symm)) hb); have n1_ := Aside0.mk (below_step (by repeat (first | (with_reducible first | exact HB.out | apply below_alloc | apply pw_below_drewN | apply below_drew1) | exact HB.out | exact Below.refl _ _)) hb); have n2_ := Aside0.mk (hbox); have n3_ := Aside0.mk ((by rw [hg]; exact (below_size (by repeat (first | (with_reducible first | exact HB.out | apply below_alloc | apply pw_below_drewN | apply below_drew1) | exact HB.out | exact Below.refl _ _))) : w.heap.size ≤ gb152)); have n4_ := Aside0.mk ((by rw [hg]; exact (below_size (by repeat (first | (with_reducible first | exact HB.out | apply below_alloc | apply pw_below_drewN | apply below_drew1) | exact HB.out | exact Below.refl _ _))) : w.heap.size ≤ gb152)); clear HO_3; clear HB; have HO_3 := n0_; have HB := n1_; have BK152 := n2_; have GW152 := n3_; have GE152 := n4_; clear n0_ n1_ n2_ n3_ n4_; clear hb hbox hg; have hcz7_0 : w6.cell? ⟨gb152, 0, none⟩ = some (.int .i64 0) := (blk_cell BK152.out 0).trans rfl; have hcz7_1 : w6.cell? ⟨gb152, 1, none⟩ = some (.slice none 0 0) := (blk_cell BK152.out 1).trans rfl; have hfz7_0 := blk_frozen BK152.out 0; have hfz7_1 := blk_frozen BK152.out 1; obtain ⟨Ao8, co8, eo8⟩ := Kd.S_slice HO_3.out; subst eo8) | ((with_reducible refine gate_callee (f := 24) rfl ?_); refine goesL_ (some 17) rfl rfl Try.func24 (by kernel_rfl) rfl #[.slice Ao8 x3_1.length co8, .int .i64 ((rd_T34 l0 x8_1).f0), .slice A151_1 ((rd_T34 l0 x8_1).f1).length c151_1] rfl (by (try simp only [List.map_toArray, List.map_cons, List.map_nil]); first | done | rfl | (simp only [List.length_drop, List.length_take]; rfl)) ?_; (with_reducible refine (blocks_add.calls k1 _ _ x3_1 ((rd_T34 l0 x8_1).f0) _ _ ((rd_T34 l0 x8_1).f1) t153 w _ ?side1 ?side2 ?side3 ?side4 A5.out).mono ?_); (case side1 => refine Kd.S_mono (ok := fun k_ => (True ∧ k_ ≠ gb152)) ?_ (fun _ _ => trivial); exact (by (with_reducible repeat (first | apply Kd.S_alloc | apply Kd.S_drewN | apply Kd.S_drew)); exact (Kd.S_mono (Kd.S_far (p := ⟨gb152, 1, none⟩) (Kd.S_far (p := ⟨gb152, 0, none⟩) (Kd.S_mono HO_3.out (fun k_ hk => (⟨hk, hk.2⟩ : _ ∧ k_ ≠ gb152))) (fun _ hk => hk.2) (.int .i64 ((rd_T34 l0 x8_1).f0))) (fun _ hk => hk.2) (.slice A151_1 ((rd_T34 l0 x8_1).f1).length c151_1)) (fun _ h_ => h_.1)))); (case side2 => exact (by repeat (first | (with_reducible first | exact HB.out | apply below_alloc | apply pw_below_drewN | apply below_drew1 | refine below_set ?_ GE152.out) | exact HB.out))); (case side3 => exact HR151_1.out); (case side4 => exact HC151_1.out); rintro e w9 ⟨v154, rfl, ho0, hb⟩; refine ⟨_, rfl, ?_⟩; have n0_ := Aside0.mk (trivial); have n1_ := Aside0.mk (ho0); have n2_ := Aside0.mk (trivial); have n3_ := Aside0.mk (hb); clear HO_3; clear BK152; clear HB; have HO_3 := n0_; have HO155 := n1_; have BK152 := n2_; have HB := n3_; clear n0_ n1_ n2_ n3_; (try clear hb); (try clear hb2); (try clear hk); (try clear hi); (try clear ho0)))
            go_roundg k1
            case measure => have := HK1.out; omega
            case rel => exact ⟨(t153), (wrap64 (x8_1 + 1)), (by first | rfl | (simp; done) | (simp [*]; done)), H', ⟨by have := HK1.out; omega⟩, ⟨by (with_reducible repeat (first | apply Kd.S_alloc | apply Kd.S_drewN | apply Kd.S_drew)); exact Kd.S_mono HO155.out (fun _ hk => trivial)⟩, ⟨by repeat (first | (with_reducible first | exact HB.out | apply below_alloc | apply pw_below_drewN | apply below_drew1 | refine below_set ?_ GE152.out) | exact HB.out)⟩⟩
          · rw [if_neg c4] at H
            exact absurd H (by simp)
        · rw [if_neg c3] at H
          exact absurd H (by simp)
      · rw [if_neg c2] at H
        have c2b0 : decide (x8_1 < (l0.length : Int)) = false := decide_eq_false c2
        clear c2
        obtain rfl := Option.some.inj H
        go_wp2
        go_ret
        exact ⟨_, by first | rfl | (simp [errW_none, errW_some] <;> rfl) | (simp [*, errW_none, errW_some] <;> rfl), by (with_reducible repeat (first | apply Kd.S_alloc | apply Kd.S_drewN | apply Kd.S_drew)); exact HO_3.out, by repeat (first | (with_reducible first | exact HB.out | apply below_alloc | apply pw_below_drewN | apply below_drew1) | exact HB.out | exact Below.refl _ _)⟩
/-! ### rubriclaw12_known: function 8 -/
def rubriclaw12_known.f  : Option (Bool) := some true
theorem C_of_block {α : Type} (d : Kd α) {W : World} {g t : Nat} {f : Nat × Nat} {cs : List Value} (hb : W.heap[g]? = some (.cells cs.toArray t f)) {xs : List α} (hr : Reps (d.K W) d.sz xs cs) (hn : xs.length ≤ 9223372036854775807) : Kd.C d W (some ⟨g, 0, none⟩) xs.length xs := by
  refine ⟨rfl, hn, fun _ => ⟨_, rfl, fun j p hj => ?_⟩⟩
  have hjl : j < xs.length := (List.getElem?_eq_some_iff.1 hj).1
  have hle : j * d.sz + d.sz ≤ cs.length := by rw [hr.1, ← Nat.succ_mul]; exact Nat.mul_le_mul_right _ hjl
  refine ⟨(cs.drop (j * d.sz)).take d.sz, by rw [List.length_take, List.length_drop]; omega, hr.2 j p hj, fun i u hu => ?_⟩
  have hi : i < d.sz := by have := (List.getElem?_eq_some_iff.1 hu).1; rw [List.length_take] at this; omega
  rw [List.getElem?_take_of_lt hi, List.getElem?_drop] at hu
  have ha : (⟨g, 0, none⟩ : Addr).add (j * d.sz + i) = ⟨g, j * d.sz + i, none⟩ := by
    unfold Addr.add
    split
    · rename_i h; rw [h]
    · simp
  rw [ha]
  simp only [World.cell?, hb]
  simpa using hu
def X0 : S46 := ⟨1, ⟨1, 1, 0, ⟨#[]⟩⟩⟩
def K1 : List S34 := [⟨2, [X0]⟩, ⟨0, []⟩, ⟨3, [X0]⟩]
def K2 : List S26 := [⟨97, [X0]⟩, ⟨98, [X0]⟩, ⟨10, []⟩, ⟨99, []⟩]
theorem known_v1 : blocks_Join.f 20 K1 = some [⟨5, [X0]⟩] := by kernel_rfl
theorem known_v2 : blocks_Of.f 20 K2 = some [⟨2, [X0]⟩, ⟨2, []⟩] := by kernel_rfl
theorem known_v3 : blocks_Len.f [⟨2, [X0]⟩, ⟨2, []⟩] = some 4 := by kernel_rfl
set_option maxHeartbeats 8000000 in
set_option maxRecDepth 100000 in
theorem known_in (w : World) : Calls Try.prog 8 #[] w fun e w' => e = .returned (.bool true) ∧ Below w.heap.size w w' := by
  have h1 := World.alloc_heap_new w (.cells #[.int .i64 1, .int .u8 1, .int .i64 1, .int .u64 0, .string ⟨#[]⟩] 46)
  have C1 : Kd.C k46 (w.alloc (.cells #[.int .i64 1, .int .u8 1, .int .i64 1, .int .u64 0, .string ⟨#[]⟩] 46)) (some ⟨w.heap.size, 0, none⟩) 1 [X0] :=
    C_of_block k46 (xs := [X0]) (cs := [.int .i64 1, .int .u8 1, .int .i64 1, .int .u64 0, .string ⟨#[]⟩]) h1 (Reps.c5 (k46_mk _ X0) (Reps.none _ _)) (by decide)
  have hB1 : Below w.heap.size w (w.alloc (.cells #[.int .i64 1, .int .u8 1, .int .i64 1, .int .u64 0, .string ⟨#[]⟩] 46)) := below_alloc (Below.refl _ _) _
  obtain ⟨W1, hW1⟩ : ∃ W1, w.alloc (.cells #[.int .i64 1, .int .u8 1, .int .i64 1, .int .u64 0, .string ⟨#[]⟩] 46) = W1 := ⟨_, rfl⟩
  have hs1 : W1.heap.size = w.heap.size + 1 := by rw [← hW1]; simp
  have C2 : Kd.C k34 (W1.alloc (.cells #[.int .i64 2, .slice (some ⟨w.heap.size, 0, none⟩) 1 1, .int .i64 0, .slice none 0 0, .int .i64 3, .slice (some ⟨w.heap.size, 0, none⟩) 1 1] 34)) (some ⟨w.heap.size + 1, 0, none⟩) K1.length K1 := by
    rw [hW1] at C1
    have h2 := World.alloc_heap_new W1 (.cells #[.int .i64 2, .slice (some ⟨w.heap.size, 0, none⟩) 1 1, .int .i64 0, .slice none 0 0, .int .i64 3, .slice (some ⟨w.heap.size, 0, none⟩) 1 1] 34)
    rw [hs1] at h2
    have C1' := Kd.C_alloc C1 (.cells #[.int .i64 2, .slice (some ⟨w.heap.size, 0, none⟩) 1 1, .int .i64 0, .slice none 0 0, .int .i64 3, .slice (some ⟨w.heap.size, 0, none⟩) 1 1] 34)
    exact C_of_block k34 (xs := K1) (cs := [.int .i64 2, .slice (some ⟨w.heap.size, 0, none⟩) 1 1, .int .i64 0, .slice none 0 0, .int .i64 3, .slice (some ⟨w.heap.size, 0, none⟩) 1 1]) h2
      (Reps.c2 (k34_mk _ ⟨2, [X0]⟩ (by decide) C1') (Reps.c2 (k34_mk _ ⟨0, []⟩ (by decide) (Kd.C_nil _ _)) (Reps.c2 (k34_mk _ ⟨3, [X0]⟩ (by decide) C1') (Reps.none _ _)))) (by decide)
  have HB := Aside0.mk (below_alloc hB1 (.cells #[.int .i64 2, .slice (some ⟨w.heap.size, 0, none⟩) 1 1, .int .i64 0, .slice none 0 0, .int .i64 3, .slice (some ⟨w.heap.size, 0, none⟩) 1 1] 34))
  rw [hW1] at C1 HB
  have C1B := Kd.C_alloc C1 (.cells #[.int .i64 2, .slice (some ⟨w.heap.size, 0, none⟩) 1 1, .int .i64 0, .slice none 0 0, .int .i64 3, .slice (some ⟨w.heap.size, 0, none⟩) 1 1] 34)
  go_enter Try.func8, Try.ntmps8
  go_wp2_with (first
    | (go_at_call 11; refine (blocks_Join.calls 20 _ 3 K1 _ _ C2 (by decide) known_v1).mono ?_; rintro e w3 ⟨v1, rfl, ho1, hb⟩;
        have C1C := Kd.C_below C1B hb; have HB3 := Aside0.mk (below_step HB.out hb); obtain ⟨g1, c1, rfl, gb1, gl1, gc1⟩ := Kd.S_form ho1 (by decide);
        have C4 : Kd.C k26 (w3.alloc (.cells #[.int .i32 97, .slice (some ⟨w.heap.size, 0, none⟩) 1 1, .int .i32 98, .slice (some ⟨w.heap.size, 0, none⟩) 1 1, .int .i32 10, .slice none 0 0, .int .i32 99, .slice none 0 0] 26)) (some ⟨w3.heap.size, 0, none⟩) K2.length K2 := C_of_block k26 (xs := K2) (cs := [.int .i32 97, .slice (some ⟨w.heap.size, 0, none⟩) 1 1, .int .i32 98, .slice (some ⟨w.heap.size, 0, none⟩) 1 1, .int .i32 10, .slice none 0 0, .int .i32 99, .slice none 0 0]) (World.alloc_heap_new w3 _) (Reps.c2 (k26_mk _ ⟨97, [X0]⟩ (by decide) (Kd.C_alloc C1C _)) (Reps.c2 (k26_mk _ ⟨98, [X0]⟩ (by decide) (Kd.C_alloc C1C _)) (Reps.c2 (k26_mk _ ⟨10, []⟩ (by decide) (Kd.C_nil _ _)) (Reps.c2 (k26_mk _ ⟨99, []⟩ (by decide) (Kd.C_nil _ _)) (Reps.none _ _))))) (by decide))
    | (go_at_call 9; refine (blocks_Of.calls 20 _ 4 K2 _ _ C4 (by decide) known_v2).mono ?_; rintro e w5 ⟨v2, rfl, ho2, hb2⟩; have HB5 := Aside0.mk (below_step (below_alloc HB3.out _) hb2); have ho1' := Kd.S_below (Kd.S_alloc ho1 _) hb2; obtain ⟨g2, c2, rfl, gb2, gl2, gc2⟩ := Kd.S_form ho2 (by decide);
        obtain ⟨ad1, _, _, e1, x1, _, _, _⟩ := at_T34 (Kd.S_reads' ho1').2.2 0 (by decide) (by decide); cases e1; obtain ⟨ad2, _, _, e2, x2, _, _, _⟩ := at_T34 (Kd.S_reads' ho2).2.2 1 (by decide) (by decide); cases e2;
        have y1 : w5.cell? ⟨g1, 0, none⟩ = some (.int .i64 5) := x1; have y2 : w5.cell? ⟨g2, 2, none⟩ = some (.int .i64 2) := x2)
    | (go_at_call 13; refine (blocks_Len.calls _ c2 _ 4 _ (Kd.S_reads' ho2).2.2 (Kd.S_reads' ho2).2.1 known_v3).mono ?_; rintro e w6 ⟨rfl, hb6⟩))
  go_ret
  exact ⟨rfl, below_step HB5.out hb6⟩
theorem rubriclaw12_known.calls  (r : Bool) (w : World) (h : rubriclaw12_known.f  = some r) :
    Calls Try.prog 8 #[] w fun e w' => e = .returned (.bool r) ∧ Below w.heap.size w w' := by
  have hr : true = r := by simpa [rubriclaw12_known.f] using h
  subst hr
  exact known_in w
/-! ### rubricref05_Same: function 15 -/
def rubricref05_Same.l0 : Nat → List (S46) → List (S46) → Int → Option (Bool)
  | 0, _, _, _ => none
  | k + 1, x0, x1, x5 => if x5 < (x0.length : Int) then (if 0 ≤ x5 then (if x5 < (x1.length : Int) then (if (!(((rd_T46 x0 x5).f0) == ((rd_T46 x1 x5).f0)) || ((!(((rd_T46 x0 x5).f1.f0) == ((rd_T46 x1 x5).f1.f0)) || (!(((rd_T46 x0 x5).f1.f1) == ((rd_T46 x1 x5).f1.f1)) || (!(((rd_T46 x0 x5).f1.f2) == ((rd_T46 x1 x5).f1.f2)) || (!((((rd_T46 x0 x5).f1.f3).toList) == (((rd_T46 x1 x5).f1.f3).toList)))))))) = true then (some false) else (rubricref05_Same.l0 k x0 x1 (wrap64 (x5 + 1)))) else (none)) else (none)) else (some true)
def rubricref05_Same.f (k : Nat) (l0 : List (S46)) (l1 : List (S46)) : Option (Bool) := if (l0.length : Int) = (l1.length : Int) then (rubricref05_Same.l0 k l0 l1 0) else (some false)
set_option maxHeartbeats 8000000 in
set_option maxRecDepth 100000 in
theorem rubricref05_Same.calls (k : Nat) (A0 : Option Addr) (c0 : Nat) (l0 : List (S46)) (A1 : Option Addr) (c1 : Nat) (l1 : List (S46)) (r : Bool) (w : World) (hr0 : Kd.C k46 w A0 l0.length l0) (hc0 : l0.length ≤ c0) (hr1 : Kd.C k46 w A1 l1.length l1) (hc1 : l1.length ≤ c1) (h : rubricref05_Same.f k l0 l1 = some r) :
    Calls Try.prog 15 #[.slice A0 l0.length c0, .slice A1 l1.length c1] w fun e w' => e = .returned (.bool r) ∧ Drawn0 w w' := by
  have hu46 := Try.underlying46
  have HR0 := Aside0.mk hr0
  have HC0 := Aside0.mk hc0
  clear hr0 hc0
  have HR1 := Aside0.mk hr1
  have HC1 := Aside0.mk hc1
  clear hr1 hc1
  have H : (if (l0.length : Int) = (l1.length : Int) then (rubricref05_Same.l0 k l0 l1 0) else (some false)) = some r := h
  clear h
  by_cases c3 : (l0.length : Int) = (l1.length : Int)
  · rw [if_pos c3] at H
    have c3b0 : ((l0.length : Int) == (l1.length : Int)) = true := beq_iff_eq.mpr c3
    have c3b1 : ((l0.length : Int) != (l1.length : Int)) = false := bne_eq_false_iff_eq.mpr c3
    have c3b2 : (l0.length == l1.length) = true := by first | simpa using c3 | (simp at c3 ⊢; omega)
    clear c3
    have H' := Aside0.mk H
    clear H
    go_enter Try.func15, Try.ntmps15
    go_wp2
    repeat (go_quiet (fail); try go_wp2)
    go_loopg [5] k (fun kq v5 w' => ∃ (x5_1 : Int), v5 = .int .i64 x5_1 ∧ Aside0 (rubricref05_Same.l0 kq l0 l1 x5_1 = some r) ∧ Aside0 (kq ≤ k) ∧ Drawn0 w w')
    case atStart => exact ⟨(0), (by first | rfl | (simp; done) | (simp [*]; done)), H', ⟨Nat.le_refl _⟩, by repeat (first | exact Drawn0.refl _ | apply Drawn0.step)⟩
    case round =>
      clear H'
      try clear c1
      try clear p2
      try clear c3
      try clear c3b0
      try clear c3b0d c3b0p
      try clear c3b0d
      try clear c3b1
      try clear c3b1d c3b1p
      try clear c3b1d
      try clear c3b2
      try clear c3b2d c3b2p
      try clear c3b2d
      obtain ⟨x5_1, rfl, HA, HK1, ⟨m1, rfl⟩⟩ := hrel
      cases gk with
      | zero => exact absurd HA.out (by simp [rubricref05_Same.l0])
      | succ k1 =>
        have H := HA.out
        clear HA
        simp only [rubricref05_Same.l0] at H
        by_cases c4 : x5_1 < (l0.length : Int)
        · rw [if_pos c4] at H
          have c4b0 : decide (x5_1 < (l0.length : Int)) = true := decide_eq_true c4
          clear c4
          by_cases c5 : 0 ≤ x5_1
          · rw [if_pos c5] at H
            have c5b0 : decide (0 ≤ x5_1) = true := decide_eq_true c5
            clear c5
            by_cases c6 : x5_1 < (l1.length : Int)
            · rw [if_pos c6] at H
              have c6b0 : decide (x5_1 < (l1.length : Int)) = true := decide_eq_true c6
              clear c6
              by_cases c7 : (!(((rd_T46 l0 x5_1).f0) == ((rd_T46 l1 x5_1).f0)) || ((!(((rd_T46 l0 x5_1).f1.f0) == ((rd_T46 l1 x5_1).f1.f0)) || (!(((rd_T46 l0 x5_1).f1.f1) == ((rd_T46 l1 x5_1).f1.f1)) || (!(((rd_T46 l0 x5_1).f1.f2) == ((rd_T46 l1 x5_1).f1.f2)) || (!((((rd_T46 l0 x5_1).f1.f3).toList) == (((rd_T46 l1 x5_1).f1.f3).toList)))))))) = true
              · rw [if_pos c7] at H
                have c7b0 : (!(((rd_T46 l0 x5_1).f0) == ((rd_T46 l1 x5_1).f0)) || ((!(((rd_T46 l0 x5_1).f1.f0) == ((rd_T46 l1 x5_1).f1.f0)) || (!(((rd_T46 l0 x5_1).f1.f1) == ((rd_T46 l1 x5_1).f1.f1)) || (!(((rd_T46 l0 x5_1).f1.f2) == ((rd_T46 l1 x5_1).f1.f2)) || (!((((rd_T46 l0 x5_1).f1.f3).toList) == (((rd_T46 l1 x5_1).f1.f3).toList)))))))) = true := c7
                clear c7
                obtain rfl := Option.some.inj H
                have p162 : 0 ≤ (x5_1 : Int) := of_decide_eq_true (by first | (with_reducible assumption) | assumption)
                have q162 : x5_1 < (l0.length : Int) := of_decide_eq_true (by first | (with_reducible assumption) | assumption)
                obtain ⟨ad162, e162, hx162_0, hx162_1, hx162_2, hx162_3, hx162_4⟩ := at_T46 HR0.out x5_1 p162 q162
                cases e162
                replace p162 := eq_true p162
                replace q162 := eq_true q162
                have p163 : 0 ≤ (x5_1 : Int) := of_decide_eq_true (by first | (with_reducible assumption) | assumption)
                have q163 : x5_1 < (l1.length : Int) := of_decide_eq_true (by first | (with_reducible assumption) | assumption)
                obtain ⟨ad163, e163, hx163_0, hx163_1, hx163_2, hx163_3, hx163_4⟩ := at_T46 HR1.out x5_1 p163 q163
                cases e163
                replace p163 := eq_true p163
                replace q163 := eq_true q163
                go_wp2
                repeat (go_quiet (fail); try go_wp2)
                go_ret
                exact ⟨by first | rfl | (simp; done) | (simp [*]; done), by repeat (first | exact Drawn0.refl _ | apply Drawn0.step)⟩
              · rw [if_neg c7] at H
                have c7b0 : (!(((rd_T46 l0 x5_1).f0) == ((rd_T46 l1 x5_1).f0)) || ((!(((rd_T46 l0 x5_1).f1.f0) == ((rd_T46 l1 x5_1).f1.f0)) || (!(((rd_T46 l0 x5_1).f1.f1) == ((rd_T46 l1 x5_1).f1.f1)) || (!(((rd_T46 l0 x5_1).f1.f2) == ((rd_T46 l1 x5_1).f1.f2)) || (!((((rd_T46 l0 x5_1).f1.f3).toList) == (((rd_T46 l1 x5_1).f1.f3).toList)))))))) = false := by simpa using c7
                clear c7
                have H' := Aside0.mk H
                clear H
                have p162 : 0 ≤ (x5_1 : Int) := of_decide_eq_true (by first | (with_reducible assumption) | assumption)
                have q162 : x5_1 < (l0.length : Int) := of_decide_eq_true (by first | (with_reducible assumption) | assumption)
                obtain ⟨ad162, e162, hx162_0, hx162_1, hx162_2, hx162_3, hx162_4⟩ := at_T46 HR0.out x5_1 p162 q162
                cases e162
                replace p162 := eq_true p162
                replace q162 := eq_true q162
                have p163 : 0 ≤ (x5_1 : Int) := of_decide_eq_true (by first | (with_reducible assumption) | assumption)
                have q163 : x5_1 < (l1.length : Int) := of_decide_eq_true (by first | (with_reducible assumption) | assumption)
                obtain ⟨ad163, e163, hx163_0, hx163_1, hx163_2, hx163_3, hx163_4⟩ := at_T46 HR1.out x5_1 p163 q163
                cases e163
                replace p163 := eq_true p163
                replace q163 := eq_true q163
                go_wp2
                repeat (go_quiet (fail); try go_wp2)
                go_roundg k1
                case measure => have := HK1.out; omega
                case rel => exact ⟨(wrap64 (x5_1 + 1)), (by first | rfl | (simp; done) | (simp [*]; done)), H', ⟨by have := HK1.out; omega⟩, by repeat (first | exact Drawn0.refl _ | apply Drawn0.step)⟩
            · rw [if_neg c6] at H
              exact absurd H (by simp)
          · rw [if_neg c5] at H
            exact absurd H (by simp)
        · rw [if_neg c4] at H
          have c4b0 : decide (x5_1 < (l0.length : Int)) = false := decide_eq_false c4
          clear c4
          obtain rfl := Option.some.inj H
          go_wp2
          repeat (go_quiet (fail); try go_wp2)
          go_ret
          exact ⟨by first | rfl | (simp; done) | (simp [*]; done), by repeat (first | exact Drawn0.refl _ | apply Drawn0.step)⟩
  · rw [if_neg c3] at H
    have c3b0 : ((l0.length : Int) == (l1.length : Int)) = false := beq_eq_false_iff_ne.mpr c3
    have c3b1 : ((l0.length : Int) != (l1.length : Int)) = true := bne_iff_ne.mpr c3
    have c3b2 : (l0.length == l1.length) = false := by first | simpa using c3 | (simp at c3 ⊢; omega)
    obtain rfl := Option.some.inj H
    go_enter Try.func15, Try.ntmps15
    go_wp2
    repeat (go_quiet (fail); try go_wp2)
    go_ret
    exact ⟨by first | rfl | (simp; done) | (simp [*]; done), by repeat (first | exact Drawn0.refl _ | apply Drawn0.step)⟩
/-! ### rubricref12_Same: function 10 -/
def rubricref12_Same.l0 : Nat → List (S34) → List (S34) → Int → Option (Bool)
  | 0, _, _, _ => none
  | k + 1, x0, x1, x5 => if x5 < (x0.length : Int) then (if 0 ≤ x5 then (if x5 < (x1.length : Int) then (if ((rd_T34 x0 x5).f0) = ((rd_T34 x1 x5).f0) then ((rubricref05_Same.f k ((rd_T34 x0 x5).f1) ((rd_T34 x1 x5).f1)).bind fun t168 => (if t168 = true then (rubricref12_Same.l0 k x0 x1 (wrap64 (x5 + 1))) else (some false))) else (some false)) else (none)) else (none)) else (some true)
def rubricref12_Same.f (k : Nat) (l0 : List (S34)) (l1 : List (S34)) : Option (Bool) := if (l0.length : Int) = (l1.length : Int) then (rubricref12_Same.l0 k l0 l1 0) else (some false)
set_option maxHeartbeats 8000000 in
set_option maxRecDepth 100000 in
theorem rubricref12_Same.calls (k : Nat) (A0 : Option Addr) (c0 : Nat) (l0 : List (S34)) (A1 : Option Addr) (c1 : Nat) (l1 : List (S34)) (r : Bool) (w : World) (hr0 : Kd.C k34 w A0 l0.length l0) (hc0 : l0.length ≤ c0) (hr1 : Kd.C k34 w A1 l1.length l1) (hc1 : l1.length ≤ c1) (h : rubricref12_Same.f k l0 l1 = some r) :
    Calls Try.prog 10 #[.slice A0 l0.length c0, .slice A1 l1.length c1] w fun e w' => e = .returned (.bool r) ∧ Drawn0 w w' := by
  have HR0 := Aside0.mk hr0
  have HC0 := Aside0.mk hc0
  clear hr0 hc0
  have HR1 := Aside0.mk hr1
  have HC1 := Aside0.mk hc1
  clear hr1 hc1
  have H : (if (l0.length : Int) = (l1.length : Int) then (rubricref12_Same.l0 k l0 l1 0) else (some false)) = some r := h
  clear h
  by_cases c3 : (l0.length : Int) = (l1.length : Int)
  · rw [if_pos c3] at H
    have c3b0 : ((l0.length : Int) == (l1.length : Int)) = true := beq_iff_eq.mpr c3
    have c3b1 : ((l0.length : Int) != (l1.length : Int)) = false := bne_eq_false_iff_eq.mpr c3
    have c3b2 : (l0.length == l1.length) = true := by first | simpa using c3 | (simp at c3 ⊢; omega)
    clear c3
    have H' := Aside0.mk H
    clear H
    go_enter Try.func10, Try.ntmps10
    go_wp2
    repeat (go_quiet (fail); try go_wp2)
    go_loopg [5] k (fun kq v5 w' => ∃ (x5_1 : Int), v5 = .int .i64 x5_1 ∧ Aside0 (rubricref12_Same.l0 kq l0 l1 x5_1 = some r) ∧ Aside0 (kq ≤ k) ∧ Drawn0 w w')
    case atStart => exact ⟨(0), (by first | rfl | (simp; done) | (simp [*]; done)), H', ⟨Nat.le_refl _⟩, by repeat (first | exact Drawn0.refl _ | apply Drawn0.step)⟩
    case round =>
      clear H'
      try clear c1
      try clear p2
      try clear c3
      try clear c3b0
      try clear c3b0d c3b0p
      try clear c3b0d
      try clear c3b1
      try clear c3b1d c3b1p
      try clear c3b1d
      try clear c3b2
      try clear c3b2d c3b2p
      try clear c3b2d
      obtain ⟨x5_1, rfl, HA, HK1, ⟨m1, rfl⟩⟩ := hrel
      cases gk with
      | zero => exact absurd HA.out (by simp [rubricref12_Same.l0])
      | succ k1 =>
        have H := HA.out
        clear HA
        simp only [rubricref12_Same.l0] at H
        by_cases c4 : x5_1 < (l0.length : Int)
        · rw [if_pos c4] at H
          have c4b0 : decide (x5_1 < (l0.length : Int)) = true := decide_eq_true c4
          clear c4
          by_cases c5 : 0 ≤ x5_1
          · rw [if_pos c5] at H
            have c5b0 : decide (0 ≤ x5_1) = true := decide_eq_true c5
            clear c5
            by_cases c6 : x5_1 < (l1.length : Int)
            · rw [if_pos c6] at H
              have c6b0 : decide (x5_1 < (l1.length : Int)) = true := decide_eq_true c6
              clear c6
              by_cases c7 : ((rd_T34 l0 x5_1).f0) = ((rd_T34 l1 x5_1).f0)
              · rw [if_pos c7] at H
                have c7b0 : (((rd_T34 l0 x5_1).f0) == ((rd_T34 l1 x5_1).f0)) = true := beq_iff_eq.mpr c7
                have c7b1 : (((rd_T34 l0 x5_1).f0) != ((rd_T34 l1 x5_1).f0)) = false := bne_eq_false_iff_eq.mpr c7
                clear c7
                replace H := Option.bind_eq_some_iff.mp H
                obtain ⟨t168, A80, H⟩ := H
                replace H : (if t168 = true then (rubricref12_Same.l0 k1 l0 l1 (wrap64 (x5_1 + 1))) else (some false)) = some r := H
                have A8 := Aside0.mk A80
                clear A80
                by_cases c9 : t168 = true
                · subst c9
                  have H1 : (rubricref12_Same.l0 k1 l0 l1 (wrap64 (x5_1 + 1))) = some r := by rw [if_pos rfl] at H; exact H
                  clear H
                  have H := H1
                  clear H1
                  have H' := Aside0.mk H
                  clear H
                  have p164 : 0 ≤ (x5_1 : Int) := of_decide_eq_true (by first | (with_reducible assumption) | assumption)
                  have q164 : x5_1 < (l0.length : Int) := of_decide_eq_true (by first | (with_reducible assumption) | assumption)
                  obtain ⟨ad164, A164_1, c164_1, e164, hx164_0, hx164_1, hl164_1, hi164_1⟩ := at_T34 HR0.out x5_1 p164 q164
                  cases e164
                  have HR164_1 := Aside0.mk hi164_1
                  have HC164_1 := Aside0.mk hl164_1
                  clear hi164_1 hl164_1
                  replace p164 := eq_true p164
                  replace q164 := eq_true q164
                  have p165 : 0 ≤ (x5_1 : Int) := of_decide_eq_true (by first | (with_reducible assumption) | assumption)
                  have q165 : x5_1 < (l1.length : Int) := of_decide_eq_true (by first | (with_reducible assumption) | assumption)
                  obtain ⟨ad165, A165_1, c165_1, e165, hx165_0, hx165_1, hl165_1, hi165_1⟩ := at_T34 HR1.out x5_1 p165 q165
                  cases e165
                  have HR165_1 := Aside0.mk hi165_1
                  have HC165_1 := Aside0.mk hl165_1
                  clear hi165_1 hl165_1
                  replace p165 := eq_true p165
                  replace q165 := eq_true q165
                  have p166 : 0 ≤ (x5_1 : Int) := of_decide_eq_true (by first | (with_reducible assumption) | assumption)
                  have q166 : x5_1 < (l0.length : Int) := of_decide_eq_true (by first | (with_reducible assumption) | assumption)
                  obtain ⟨ad166, A166_1, c166_1, e166, hx166_0, hx166_1, hl166_1, hi166_1⟩ := at_T34 HR0.out x5_1 p166 q166
                  obtain rfl : ad164 = ad166 := (by injection e166)
                  have HR166_1 := Aside0.mk hi166_1
                  have HC166_1 := Aside0.mk hl166_1
                  clear hi166_1 hl166_1
                  replace p166 := eq_true p166
                  replace q166 := eq_true q166
                  have ea_ := Option.some.inj (hx164_1.symm.trans hx166_1)
                  injection ea_ with ea_ en_ ec_
                  subst ea_
                  subst ec_
                  clear en_
                  have p167 : 0 ≤ (x5_1 : Int) := of_decide_eq_true (by first | (with_reducible assumption) | assumption)
                  have q167 : x5_1 < (l1.length : Int) := of_decide_eq_true (by first | (with_reducible assumption) | assumption)
                  obtain ⟨ad167, A167_1, c167_1, e167, hx167_0, hx167_1, hl167_1, hi167_1⟩ := at_T34 HR1.out x5_1 p167 q167
                  obtain rfl : ad165 = ad167 := (by injection e167)
                  have HR167_1 := Aside0.mk hi167_1
                  have HC167_1 := Aside0.mk hl167_1
                  clear hi167_1 hl167_1
                  replace p167 := eq_true p167
                  replace q167 := eq_true q167
                  have ea_ := Option.some.inj (hx165_1.symm.trans hx167_1)
                  injection ea_ with ea_ en_ ec_
                  subst ea_
                  subst ec_
                  clear en_
                  go_wp2_with (first | (go_at_call 15; (with_reducible refine (rubricref05_Same.calls k1 _ _ ((rd_T34 l0 x5_1).f1) _ _ ((rd_T34 l1 x5_1).f1) true _ ?side1 ?side2 ?side3 ?side4 A8.out).mono ?_); (case side1 => repeat (first | exact HR166_1.out | (with_reducible refine Kd.C_alloc ?_ _) | (with_reducible refine Kd.C_drewN ?_ _) | (with_reducible refine Kd.C_drew ?_))); (case side2 => exact HC166_1.out); (case side3 => repeat (first | exact HR167_1.out | (with_reducible refine Kd.C_alloc ?_ _) | (with_reducible refine Kd.C_drewN ?_ _) | (with_reducible refine Kd.C_drew ?_))); (case side4 => exact HC167_1.out); rintro e w' ⟨rfl, ⟨nd, rfl⟩⟩; (try first | exact ⟨rfl, _, World.drewN_drewN _ _ _⟩ | exact ⟨rfl, _, Eq.trans (World.drewN_drewN _ _ _) (congrArg (World.drewN _) (Nat.add_assoc _ _ _))⟩)))
                  repeat (go_quiet (first | (go_at_call 15; (with_reducible refine (rubricref05_Same.calls k1 _ _ ((rd_T34 l0 x5_1).f1) _ _ ((rd_T34 l1 x5_1).f1) true _ ?side1 ?side2 ?side3 ?side4 A8.out).mono ?_); (case side1 => repeat (first | exact HR166_1.out | (with_reducible refine Kd.C_alloc ?_ _) | (with_reducible refine Kd.C_drewN ?_ _) | (with_reducible refine Kd.C_drew ?_))); (case side2 => exact HC166_1.out); (case side3 => repeat (first | exact HR167_1.out | (with_reducible refine Kd.C_alloc ?_ _) | (with_reducible refine Kd.C_drewN ?_ _) | (with_reducible refine Kd.C_drew ?_))); (case side4 => exact HC167_1.out); rintro e w' ⟨rfl, ⟨nd, rfl⟩⟩; (try first | exact ⟨rfl, _, World.drewN_drewN _ _ _⟩ | exact ⟨rfl, _, Eq.trans (World.drewN_drewN _ _ _) (congrArg (World.drewN _) (Nat.add_assoc _ _ _))⟩))); try go_wp2_with (first | (go_at_call 15; (with_reducible refine (rubricref05_Same.calls k1 _ _ ((rd_T34 l0 x5_1).f1) _ _ ((rd_T34 l1 x5_1).f1) true _ ?side1 ?side2 ?side3 ?side4 A8.out).mono ?_); (case side1 => repeat (first | exact HR166_1.out | (with_reducible refine Kd.C_alloc ?_ _) | (with_reducible refine Kd.C_drewN ?_ _) | (with_reducible refine Kd.C_drew ?_))); (case side2 => exact HC166_1.out); (case side3 => repeat (first | exact HR167_1.out | (with_reducible refine Kd.C_alloc ?_ _) | (with_reducible refine Kd.C_drewN ?_ _) | (with_reducible refine Kd.C_drew ?_))); (case side4 => exact HC167_1.out); rintro e w' ⟨rfl, ⟨nd, rfl⟩⟩; (try first | exact ⟨rfl, _, World.drewN_drewN _ _ _⟩ | exact ⟨rfl, _, Eq.trans (World.drewN_drewN _ _ _) (congrArg (World.drewN _) (Nat.add_assoc _ _ _))⟩))))
                  go_roundg k1
                  case measure => have := HK1.out; omega
                  case rel => exact ⟨(wrap64 (x5_1 + 1)), (by first | rfl | (simp; done) | (simp [*]; done)), H', ⟨by have := HK1.out; omega⟩, by repeat (first | exact Drawn0.refl _ | apply Drawn0.step)⟩
                · replace c9 := Bool.eq_false_iff.mpr c9
                  subst c9
                  have H1 : (some false) = some r := by rw [if_neg (show ¬ (false = true) by decide)] at H; exact H
                  clear H
                  have H := H1
                  clear H1
                  obtain rfl := Option.some.inj H
                  have p164 : 0 ≤ (x5_1 : Int) := of_decide_eq_true (by first | (with_reducible assumption) | assumption)
                  have q164 : x5_1 < (l0.length : Int) := of_decide_eq_true (by first | (with_reducible assumption) | assumption)
                  obtain ⟨ad164, A164_1, c164_1, e164, hx164_0, hx164_1, hl164_1, hi164_1⟩ := at_T34 HR0.out x5_1 p164 q164
                  cases e164
                  have HR164_1 := Aside0.mk hi164_1
                  have HC164_1 := Aside0.mk hl164_1
                  clear hi164_1 hl164_1
                  replace p164 := eq_true p164
                  replace q164 := eq_true q164
                  have p165 : 0 ≤ (x5_1 : Int) := of_decide_eq_true (by first | (with_reducible assumption) | assumption)
                  have q165 : x5_1 < (l1.length : Int) := of_decide_eq_true (by first | (with_reducible assumption) | assumption)
                  obtain ⟨ad165, A165_1, c165_1, e165, hx165_0, hx165_1, hl165_1, hi165_1⟩ := at_T34 HR1.out x5_1 p165 q165
                  cases e165
                  have HR165_1 := Aside0.mk hi165_1
                  have HC165_1 := Aside0.mk hl165_1
                  clear hi165_1 hl165_1
                  replace p165 := eq_true p165
                  replace q165 := eq_true q165
                  have p166 : 0 ≤ (x5_1 : Int) := of_decide_eq_true (by first | (with_reducible assumption) | assumption)
                  have q166 : x5_1 < (l0.length : Int) := of_decide_eq_true (by first | (with_reducible assumption) | assumption)
                  obtain ⟨ad166, A166_1, c166_1, e166, hx166_0, hx166_1, hl166_1, hi166_1⟩ := at_T34 HR0.out x5_1 p166 q166
                  obtain rfl : ad164 = ad166 := (by injection e166)
                  have HR166_1 := Aside0.mk hi166_1
                  have HC166_1 := Aside0.mk hl166_1
                  clear hi166_1 hl166_1
                  replace p166 := eq_true p166
                  replace q166 := eq_true q166
                  have ea_ := Option.some.inj (hx164_1.symm.trans hx166_1)
                  injection ea_ with ea_ en_ ec_
                  subst ea_
                  subst ec_
                  clear en_
                  have p167 : 0 ≤ (x5_1 : Int) := of_decide_eq_true (by first | (with_reducible assumption) | assumption)
                  have q167 : x5_1 < (l1.length : Int) := of_decide_eq_true (by first | (with_reducible assumption) | assumption)
                  obtain ⟨ad167, A167_1, c167_1, e167, hx167_0, hx167_1, hl167_1, hi167_1⟩ := at_T34 HR1.out x5_1 p167 q167
                  obtain rfl : ad165 = ad167 := (by injection e167)
                  have HR167_1 := Aside0.mk hi167_1
                  have HC167_1 := Aside0.mk hl167_1
                  clear hi167_1 hl167_1
                  replace p167 := eq_true p167
                  replace q167 := eq_true q167
                  have ea_ := Option.some.inj (hx165_1.symm.trans hx167_1)
                  injection ea_ with ea_ en_ ec_
                  subst ea_
                  subst ec_
                  clear en_
                  go_wp2_with (first | (go_at_call 15; (with_reducible refine (rubricref05_Same.calls k1 _ _ ((rd_T34 l0 x5_1).f1) _ _ ((rd_T34 l1 x5_1).f1) false _ ?side1 ?side2 ?side3 ?side4 A8.out).mono ?_); (case side1 => repeat (first | exact HR166_1.out | (with_reducible refine Kd.C_alloc ?_ _) | (with_reducible refine Kd.C_drewN ?_ _) | (with_reducible refine Kd.C_drew ?_))); (case side2 => exact HC166_1.out); (case side3 => repeat (first | exact HR167_1.out | (with_reducible refine Kd.C_alloc ?_ _) | (with_reducible refine Kd.C_drewN ?_ _) | (with_reducible refine Kd.C_drew ?_))); (case side4 => exact HC167_1.out); rintro e w' ⟨rfl, ⟨nd, rfl⟩⟩; (try first | exact ⟨rfl, _, World.drewN_drewN _ _ _⟩ | exact ⟨rfl, _, Eq.trans (World.drewN_drewN _ _ _) (congrArg (World.drewN _) (Nat.add_assoc _ _ _))⟩)))
                  repeat (go_quiet (first | (go_at_call 15; (with_reducible refine (rubricref05_Same.calls k1 _ _ ((rd_T34 l0 x5_1).f1) _ _ ((rd_T34 l1 x5_1).f1) false _ ?side1 ?side2 ?side3 ?side4 A8.out).mono ?_); (case side1 => repeat (first | exact HR166_1.out | (with_reducible refine Kd.C_alloc ?_ _) | (with_reducible refine Kd.C_drewN ?_ _) | (with_reducible refine Kd.C_drew ?_))); (case side2 => exact HC166_1.out); (case side3 => repeat (first | exact HR167_1.out | (with_reducible refine Kd.C_alloc ?_ _) | (with_reducible refine Kd.C_drewN ?_ _) | (with_reducible refine Kd.C_drew ?_))); (case side4 => exact HC167_1.out); rintro e w' ⟨rfl, ⟨nd, rfl⟩⟩; (try first | exact ⟨rfl, _, World.drewN_drewN _ _ _⟩ | exact ⟨rfl, _, Eq.trans (World.drewN_drewN _ _ _) (congrArg (World.drewN _) (Nat.add_assoc _ _ _))⟩))); try go_wp2_with (first | (go_at_call 15; (with_reducible refine (rubricref05_Same.calls k1 _ _ ((rd_T34 l0 x5_1).f1) _ _ ((rd_T34 l1 x5_1).f1) false _ ?side1 ?side2 ?side3 ?side4 A8.out).mono ?_); (case side1 => repeat (first | exact HR166_1.out | (with_reducible refine Kd.C_alloc ?_ _) | (with_reducible refine Kd.C_drewN ?_ _) | (with_reducible refine Kd.C_drew ?_))); (case side2 => exact HC166_1.out); (case side3 => repeat (first | exact HR167_1.out | (with_reducible refine Kd.C_alloc ?_ _) | (with_reducible refine Kd.C_drewN ?_ _) | (with_reducible refine Kd.C_drew ?_))); (case side4 => exact HC167_1.out); rintro e w' ⟨rfl, ⟨nd, rfl⟩⟩; (try first | exact ⟨rfl, _, World.drewN_drewN _ _ _⟩ | exact ⟨rfl, _, Eq.trans (World.drewN_drewN _ _ _) (congrArg (World.drewN _) (Nat.add_assoc _ _ _))⟩))))
                  go_ret
                  exact ⟨by first | rfl | (simp; done) | (simp [*]; done), by repeat (first | exact Drawn0.refl _ | apply Drawn0.step)⟩
              · rw [if_neg c7] at H
                have c7b0 : (((rd_T34 l0 x5_1).f0) == ((rd_T34 l1 x5_1).f0)) = false := beq_eq_false_iff_ne.mpr c7
                have c7b1 : (((rd_T34 l0 x5_1).f0) != ((rd_T34 l1 x5_1).f0)) = true := bne_iff_ne.mpr c7
                obtain rfl := Option.some.inj H
                have p164 : 0 ≤ (x5_1 : Int) := of_decide_eq_true (by first | (with_reducible assumption) | assumption)
                have q164 : x5_1 < (l0.length : Int) := of_decide_eq_true (by first | (with_reducible assumption) | assumption)
                obtain ⟨ad164, A164_1, c164_1, e164, hx164_0, hx164_1, hl164_1, hi164_1⟩ := at_T34 HR0.out x5_1 p164 q164
                cases e164
                have HR164_1 := Aside0.mk hi164_1
                have HC164_1 := Aside0.mk hl164_1
                clear hi164_1 hl164_1
                replace p164 := eq_true p164
                replace q164 := eq_true q164
                have p165 : 0 ≤ (x5_1 : Int) := of_decide_eq_true (by first | (with_reducible assumption) | assumption)
                have q165 : x5_1 < (l1.length : Int) := of_decide_eq_true (by first | (with_reducible assumption) | assumption)
                obtain ⟨ad165, A165_1, c165_1, e165, hx165_0, hx165_1, hl165_1, hi165_1⟩ := at_T34 HR1.out x5_1 p165 q165
                cases e165
                have HR165_1 := Aside0.mk hi165_1
                have HC165_1 := Aside0.mk hl165_1
                clear hi165_1 hl165_1
                replace p165 := eq_true p165
                replace q165 := eq_true q165
                go_wp2
                repeat (go_quiet (fail); try go_wp2)
                go_ret
                exact ⟨by first | rfl | (simp; done) | (simp [*]; done), by repeat (first | exact Drawn0.refl _ | apply Drawn0.step)⟩
            · rw [if_neg c6] at H
              exact absurd H (by simp)
          · rw [if_neg c5] at H
            exact absurd H (by simp)
        · rw [if_neg c4] at H
          have c4b0 : decide (x5_1 < (l0.length : Int)) = false := decide_eq_false c4
          clear c4
          obtain rfl := Option.some.inj H
          go_wp2
          repeat (go_quiet (fail); try go_wp2)
          go_ret
          exact ⟨by first | rfl | (simp; done) | (simp [*]; done), by repeat (first | exact Drawn0.refl _ | apply Drawn0.step)⟩
  · rw [if_neg c3] at H
    have c3b0 : ((l0.length : Int) == (l1.length : Int)) = false := beq_eq_false_iff_ne.mpr c3
    have c3b1 : ((l0.length : Int) != (l1.length : Int)) = true := bne_iff_ne.mpr c3
    have c3b2 : (l0.length == l1.length) = false := by first | simpa using c3 | (simp at c3 ⊢; omega)
    obtain rfl := Option.some.inj H
    go_enter Try.func10, Try.ntmps10
    go_wp2
    repeat (go_quiet (fail); try go_wp2)
    go_ret
    exact ⟨by first | rfl | (simp; done) | (simp [*]; done), by repeat (first | exact Drawn0.refl _ | apply Drawn0.step)⟩
/-! ### rubricref12_Add: function 27 -/
def rubricref12_Add.f (k : Nat) (l0 : List (S34)) (a1 : Int) (l2 : List (S46)) : Option ((List (S34))) := (if a1 ≤ 0 then (some l0) else (if (wrap64 ((l0.length : Int) - 1)) ≥ 0 then (if 0 ≤ (wrap64 ((l0.length : Int) - 1)) then (if (wrap64 ((l0.length : Int) - 1)) < (l0.length : Int) then ((rubricref05_Same.f k ((rd_T34 l0 (wrap64 ((l0.length : Int) - 1))).f1) l2).bind fun t176 => (if t176 = true then (some (l0.set ((wrap64 ((l0.length : Int) - 1)) : Int).toNat (⟨wrap64 (((rd_T34 l0 (wrap64 ((l0.length : Int) - 1))).f0) + a1), (rd_T34 l0 (wrap64 ((l0.length : Int) - 1))).f1⟩ : S34))) else ((some (([] : List (S46)) : List (S46))).bind fun y179 => (if y179.length + l2.length < 2932031007402 then (if l0.length < 4398046511104 then (some (l0 ++ [(⟨a1, (y179 ++ l2)⟩ : S34)])) else (none)) else (none))))) else (none)) else (none)) else ((some (([] : List (S46)) : List (S46))).bind fun y188 => (if y188.length + l2.length < 2932031007402 then (if l0.length < 4398046511104 then (some (l0 ++ [(⟨a1, (y188 ++ l2)⟩ : S34)])) else (none)) else (none)))))
set_option maxHeartbeats 8000000 in
set_option maxRecDepth 100000 in
theorem rubricref12_Add.calls (k : Nat) (A0 : Option Addr) (c0 : Nat) (l0 : List (S34)) (a1 : Int) (A2 : Option Addr) (c2 : Nat) (l2 : List (S46)) (r : List (S34)) (w wx : World) (hO : Kd.S k34 34 wx w.heap.size (fun _ => True) (.slice A0 l0.length c0) l0) (hB : Below w.heap.size w wx) (hr2 : Kd.C k46 w A2 l2.length l2) (hc2 : l2.length ≤ c2) (h : rubricref12_Add.f k l0 a1 l2 = some r) :
    Calls Try.prog 27 #[.slice A0 l0.length c0, .int .i64 a1, .slice A2 l2.length c2] wx fun e w' => ∃ v0_ : Value, e = .returned (v0_) ∧ Kd.S k34 34 w' w.heap.size (fun _ => True) v0_ r ∧ Below w.heap.size w w' := by
  have hu34 := Try.underlying34
  have HR2 := Aside0.mk hr2
  have HC2 := Aside0.mk hc2
  clear hr2 hc2
  have HB := Aside0.mk hB
  have HO174 := Aside0.mk hO
  clear hB hO
  have H : (if a1 ≤ 0 then (some l0) else (if (wrap64 ((l0.length : Int) - 1)) ≥ 0 then (if 0 ≤ (wrap64 ((l0.length : Int) - 1)) then (if (wrap64 ((l0.length : Int) - 1)) < (l0.length : Int) then ((rubricref05_Same.f k ((rd_T34 l0 (wrap64 ((l0.length : Int) - 1))).f1) l2).bind fun t176 => (if t176 = true then (some (l0.set ((wrap64 ((l0.length : Int) - 1)) : Int).toNat (⟨wrap64 (((rd_T34 l0 (wrap64 ((l0.length : Int) - 1))).f0) + a1), (rd_T34 l0 (wrap64 ((l0.length : Int) - 1))).f1⟩ : S34))) else ((some (([] : List (S46)) : List (S46))).bind fun y179 => (if y179.length + l2.length < 2932031007402 then (if l0.length < 4398046511104 then (some (l0 ++ [(⟨a1, (y179 ++ l2)⟩ : S34)])) else (none)) else (none))))) else (none)) else (none)) else ((some (([] : List (S46)) : List (S46))).bind fun y188 => (if y188.length + l2.length < 2932031007402 then (if l0.length < 4398046511104 then (some (l0 ++ [(⟨a1, (y188 ++ l2)⟩ : S34)])) else (none)) else (none))))) = some r := h
  clear h
  by_cases c5 : a1 ≤ 0
  · rw [if_pos c5] at H
    have c5b0 : decide (a1 ≤ 0) = true := decide_eq_true c5
    clear c5
    obtain rfl := Option.some.inj H
    go_enter Try.func27, Try.ntmps27
    go_wp2
    go_ret
    exact ⟨_, by first | rfl | (simp [errW_none, errW_some] <;> rfl) | (simp [*, errW_none, errW_some] <;> rfl), by (with_reducible repeat (first | apply Kd.S_alloc | apply Kd.S_drewN | apply Kd.S_drew)); exact HO174.out, by repeat (first | (with_reducible first | exact HB.out | apply below_alloc | apply pw_below_drewN | apply below_drew1) | exact HB.out | exact Below.refl _ _)⟩
  · rw [if_neg c5] at H
    have c5b0 : decide (a1 ≤ 0) = false := decide_eq_false c5
    clear c5
    by_cases c7 : (wrap64 ((l0.length : Int) - 1)) ≥ 0
    · rw [if_pos c7] at H
      have c7b0 : decide (0 ≤ (wrap64 ((l0.length : Int) - 1))) = true := decide_eq_true c7
      clear c7
      obtain ⟨ji8, hji8⟩ : ∃ j_ : Int, (wrap64 ((l0.length : Int) - 1)) = j_ := ⟨_, rfl⟩
      replace H : (if 0 ≤ (ji8) then (if (ji8) < (l0.length : Int) then ((rubricref05_Same.f k ((rd_T34 l0 (ji8)).f1) l2).bind fun t176 => (if t176 = true then (some (l0.set ((ji8) : Int).toNat (⟨wrap64 (((rd_T34 l0 (ji8)).f0) + a1), (rd_T34 l0 (ji8)).f1⟩ : S34))) else ((some (([] : List (S46)) : List (S46))).bind fun y179 => (if y179.length + l2.length < 2932031007402 then (if l0.length < 4398046511104 then (some (l0 ++ [(⟨a1, (y179 ++ l2)⟩ : S34)])) else (none)) else (none))))) else (none)) else (none)) = some r := by first | (rw [hji8] at H; exact H) | (simp only [hji8] at H ⊢; exact H)
      (try rw [hji8] at c7b0)
      have hji8w : (IntKind.i64.wrap ((l0.length : Int) - 1)) = ji8 := (i64_w _).trans hji8
      by_cases c9 : 0 ≤ (ji8)
      · rw [if_pos c9] at H
        have c9b0 : decide (0 ≤ (ji8)) = true := decide_eq_true c9
        clear c9
        by_cases c10 : (ji8) < (l0.length : Int)
        · rw [if_pos c10] at H
          have c10b0 : decide ((ji8) < (l0.length : Int)) = true := decide_eq_true c10
          clear c10
          replace H := Option.bind_eq_some_iff.mp H
          obtain ⟨t176, A110, H⟩ := H
          replace H : (if t176 = true then (some (l0.set ((ji8) : Int).toNat (⟨wrap64 (((rd_T34 l0 (ji8)).f0) + a1), (rd_T34 l0 (ji8)).f1⟩ : S34))) else ((some (([] : List (S46)) : List (S46))).bind fun y179 => (if y179.length + l2.length < 2932031007402 then (if l0.length < 4398046511104 then (some (l0 ++ [(⟨a1, (y179 ++ l2)⟩ : S34)])) else (none)) else (none)))) = some r := H
          have A11 := Aside0.mk A110
          clear A110
          by_cases c12 : t176 = true
          · subst c12
            have H1 : (some (l0.set ((ji8) : Int).toNat (⟨wrap64 (((rd_T34 l0 (ji8)).f0) + a1), (rd_T34 l0 (ji8)).f1⟩ : S34))) = some r := by rw [if_pos rfl] at H; exact H
            clear H
            have H := H1
            clear H1
            obtain ⟨y178, hy178⟩ : ∃ y_ : List (S34), y_ = (l0.set ((ji8) : Int).toNat (⟨wrap64 (((rd_T34 l0 (ji8)).f0) + a1), (rd_T34 l0 (ji8)).f1⟩ : S34)) := ⟨_, rfl⟩
            replace H : (some y178) = some r := by first | (rw [hy178]; with_reducible exact H) | (have H2_ := (Option.bind_some _ _).symm.trans H; rw [hy178]; with_reducible exact H2_) | (have H2_ := (Option.bind_some _ _).symm.trans H; with_reducible exact H2_) | with_reducible exact H | (rw [hy178]; exact H) | exact H
            have Ny178 := Aside0.mk hy178
            clear hy178
            obtain rfl := Option.some.inj H
            go_enter Try.func27, Try.ntmps27
            have p175 : 0 ≤ ((ji8) : Int) := of_decide_eq_true (by first | (with_reducible assumption) | assumption)
            have q175 : (ji8) < (l0.length : Int) := of_decide_eq_true (by first | (with_reducible assumption) | assumption)
            obtain ⟨ad175, A175_1, c175_1, e175, hx175_0, hx175_1, hl175_1, hi175_1⟩ := at_T34 (Kd.S_reads' HO174.out).2.2 (ji8) p175 q175
            cases e175
            obtain ⟨ce175, hce175, hMe175, hcc175⟩ := Kd.S_get HO174.out z34 (ji8) p175 (by first | exact q175 | exact of_decide_eq_true (by first | (with_reducible assumption) | assumption) | (have e_ := (Kd.S_reads' HO174.out).1; omega))
            obtain ⟨ve175_1, rfl, ge175_1⟩ := k34_openM hMe175
            have hv175_1 := hcc175 1 _ rfl
            rw [add_field _ _ 1 (by omega)] at hv175_1
            replace hv175_1 := Option.some.inj (hv175_1.symm.trans hx175_1)
            rw [hv175_1] at ge175_1
            have HL175_1 := Aside0.mk (show Kd.R k46 46 _ _ _ _ ((rd_T34 l0 (ji8)).f1) from ge175_1)
            clear hv175_1 ge175_1
            clear hcc175 hce175
            have HR175_1 := Aside0.mk hi175_1
            have HC175_1 := Aside0.mk hl175_1
            clear hi175_1 hl175_1
            replace p175 := eq_true p175
            replace q175 := eq_true q175
            go_wp2_with (first | (go_at_call 15; (with_reducible refine (rubricref05_Same.calls k _ _ ((rd_T34 l0 (ji8)).f1) _ _ l2 true _ ?side1 ?side2 ?side3 ?side4 A11.out).mono ?_); (case side1 => repeat (first | exact (by repeat (first | (with_reducible exact HR175_1.out) | (with_reducible refine Kd.C_alloc ?_ _) | (with_reducible refine Kd.C_drewN ?_ _) | (with_reducible refine Kd.C_drew ?_) | exact HR175_1.out)) | (with_reducible refine Kd.C_alloc ?_ _) | (with_reducible refine Kd.C_drewN ?_ _) | (with_reducible refine Kd.C_drew ?_))); (case side2 => exact HC175_1.out); (case side3 => repeat (first | exact (Kd.C_below HR2.out HB.out) | (with_reducible refine Kd.C_alloc ?_ _) | (with_reducible refine Kd.C_drewN ?_ _) | (with_reducible refine Kd.C_drew ?_))); (case side4 => exact HC2.out); rintro e w' ⟨rfl, ⟨nd, rfl⟩⟩; (try (rw [drewN_self wx]; generalize hq_ : World.drewN wx _ = wx; (try replace hx175_0 := (congrArg (fun W_ => World.cell? W_ _) hq_).symm.trans hx175_0); (try replace hx175_1 := (congrArg (fun W_ => World.cell? W_ _) hq_).symm.trans hx175_1); have n0_ : Aside0 (Kd.R k46 46 wx w.heap.size (fun k_ => some k_ ≠ (.slice (some ad175) l0.length c0 : Value).ownBlock) (.slice A175_1 ((rd_T34 l0 (ji8)).f1).length c175_1) ((rd_T34 l0 (ji8)).f1)) := ⟨by rw [← hq_]; exact (by (with_reducible repeat (first | apply Kd.R_alloc | apply Kd.R_drewN | apply Kd.R_drew)); exact Kd.R_mono HL175_1.out (fun _ hk => hk.2))⟩; have n1_ : Aside0 (Kd.S k34 34 wx w.heap.size (fun _ => True) (.slice (some ad175) l0.length c0) l0) := ⟨by rw [← hq_]; exact (by (with_reducible repeat (first | apply Kd.S_alloc | apply Kd.S_drewN | apply Kd.S_drew)); exact HO174.out)⟩; have n2_ : Aside0 (Below w.heap.size w wx) := ⟨by rw [← hq_]; exact (by repeat (first | (with_reducible first | exact HB.out | apply below_alloc | apply pw_below_drewN | apply below_drew1) | exact HB.out | exact Below.refl _ _))⟩; have n3_ : Aside0 (Kd.C k46 wx A175_1 ((rd_T34 l0 (ji8)).f1).length ((rd_T34 l0 (ji8)).f1)) := ⟨by rw [← hq_]; exact (by repeat (first | (with_reducible exact HR175_1.out) | (with_reducible refine Kd.C_alloc ?_ _) | (with_reducible refine Kd.C_drewN ?_ _) | (with_reducible refine Kd.C_drew ?_) | exact HR175_1.out))⟩; clear HL175_1 HO174 HB HR175_1 hq_; have HL175_1 := n0_; have HO174 := n1_; have HB := n2_; have HR175_1 := n3_; clear n0_ n1_ n2_ n3_)); have p177 : 0 ≤ ((ji8) : Int) := of_decide_eq_true (by first | (with_reducible assumption) | assumption); have q177 : (ji8) < (l0.length : Int) := of_decide_eq_true (by first | (with_reducible assumption) | assumption); obtain ⟨ad177, A177_1, c177_1, e177, hx177_0, hx177_1, hl177_1, hi177_1⟩ := at_T34 (Kd.S_reads' HO174.out).2.2 (ji8) p177 q177; obtain rfl : ad175 = ad177 := (by injection e177); obtain ⟨ce177, hce177, hMe177, hcc177⟩ := Kd.S_get HO174.out z34 (ji8) p177 (by first | exact q177 | exact of_decide_eq_true (by first | (with_reducible assumption) | assumption) | (have e_ := (Kd.S_reads' HO174.out).1; omega)); obtain ⟨ve177_1, rfl, ge177_1⟩ := k34_openM hMe177; have hv177_1 := hcc177 1 _ rfl; rw [add_field _ _ 1 (by omega)] at hv177_1; replace hv177_1 := Option.some.inj (hv177_1.symm.trans hx177_1); rw [hv177_1] at ge177_1; have HL177_1 := Aside0.mk (show Kd.R k46 46 _ _ _ _ ((rd_T34 l0 (ji8)).f1) from ge177_1); clear hv177_1 ge177_1; clear hcc177 hce177; have HR177_1 := Aside0.mk hi177_1; have HC177_1 := Aside0.mk hl177_1; clear hi177_1 hl177_1; replace p177 := eq_true p177; replace q177 := eq_true q177; have ea_ := Option.some.inj (hx175_1.symm.trans hx177_1); injection ea_ with ea_ en_ ec_; subst ea_; subst ec_; clear en_; have p13 : 0 ≤ ((ji8) : Int) := of_decide_eq_true (by first | (with_reducible assumption) | assumption); have q13 : ((ji8) : Int) < ((l0.length : Int) : Int) := of_decide_eq_true (by first | (with_reducible assumption) | assumption); obtain ⟨go13, co13, eo13, gb13, gl13, cl13, HG13⟩ := Kd.S_form HO174.out (by omega); (first | cases eo13 | (injection eo13 with ea_ en_ ec_; (first | subst ea_ | (injection ea_ with ea_; subst ea_)); subst ec_; clear en_)); have GB13 := Aside0.mk gb13; have GG13 := Aside0.mk HG13; clear gb13 gl13 HG13; (first | simp only [add_plain] at hx175_0 | skip); (first | simp only [add_plain] at hx175_1 | skip); (first | simp only [add_plain] at hx177_0 | skip); (first | simp only [add_plain] at hx177_1 | skip); obtain ⟨_, ce13, hcl13, hM13, hcc13, hfr13, _, _⟩ := Kd.S_elem HO174.out z34 ((ji8) : Int) p13 q13; obtain ⟨ve13_1, rfl, ge13_1⟩ := k34_openM hM13; have hx13_0 : wx.cell? ⟨go13, ((ji8) : Int).toNat * 2, none⟩ = some (.int .i64 ((rd_T34 l0 (ji8)).f0)) := hcc13 0 _ rfl; have hx13_1 : wx.cell? ⟨go13, ((ji8) : Int).toNat * 2 + 1, none⟩ = some (ve13_1) := hcc13 1 _ rfl; have hf13_0 : wx.frozen? ⟨go13, ((ji8) : Int).toNat * 2, none⟩ = false := hfr13 0; have hf13_1 : wx.frozen? ⟨go13, ((ji8) : Int).toNat * 2 + 1, none⟩ = false := hfr13 1; clear hcl13 hcc13 hfr13 hM13; replace p13 := eq_true p13; replace q13 := eq_true q13; have HX16 := Aside0.mk (show Kd.S k34 34 wx w.heap.size (fun k_ => ((fun _ => True)) k_ ∧ ¬ ((fun _ => False)) k_) (.slice (some ⟨go13, 0, none⟩) l0.length c0) l0 from (by (with_reducible repeat (first | apply Kd.S_alloc | apply Kd.S_drewN | apply Kd.S_drew)); exact Kd.S_mono HO174.out (fun k_ hk => ⟨trivial, fun e_ => e_⟩))); obtain ⟨oki16, ce16, hcl16, hM16, hcc16, hfr16, hoki16, hH16⟩ := Kd.S_elem HX16.out z34 ((ji8) : Int) (of_decide_eq_true (by first | (with_reducible assumption) | assumption)) (by have h_ : ((ji8) : Int) < ((l0.length : Int) : Int) := of_decide_eq_true (by first | (with_reducible assumption) | assumption); first | exact h_ | (have e_ := (Kd.S_reads' HO174.out).1; omega) | simpa using h_); obtain ⟨ve16_1, rfl, ge16_1⟩ := k34_openM hM16; have HP16 := Kd.S_seg hH16 (of_decide_eq_true (by first | (with_reducible assumption) | assumption)) (by have h_ : ((ji8) : Int) < ((l0.length : Int) : Int) := of_decide_eq_true (by first | (with_reducible assumption) | assumption); first | exact h_ | (have e_ := (Kd.S_reads' HO174.out).1; omega) | simpa using h_) (seg := [.int .i64 (wrap64 (((rd_T34 l0 (ji8)).f0) + a1))]) (j := 0) (show 1 ≤ 2 from by decide) (x' := (⟨wrap64 (((rd_T34 l0 (ji8)).f0) + a1), (rd_T34 l0 (ji8)).f1⟩ : S34)) (k34_mkM _ _ _ (⟨wrap64 (((rd_T34 l0 (ji8)).f0) + a1), (rd_T34 l0 (ji8)).f1⟩ : S34) (Kd.R_mono ge16_1 (fun _ h_ => Or.inl h_))) (fun _ hk => hk) (fun k_ hk_ => hk_.elim); have hx16_0 := hcc16 0 _ rfl; (try simp only [show (k34).sz = 2 from rfl, Nat.mul_one, Nat.add_zero] at hx16_0); have hf16_0 := hfr16 0; (try simp only [show (k34).sz = 2 from rfl, Nat.mul_one, Nat.add_zero] at hf16_0); clear hcl16 hcc16 hfr16 hM16 hoki16 hH16) | ((with_reducible refine gate_store (t := 3) (p := 35) rfl ?_); refine store_event (t := 3) (p := 35) (v := ?vo_w17) (w1 := (wx.setCell ⟨go13, ((ji8) : Int).toNat * 2, none⟩ (.int .i64 (wrap64 (((rd_T34 l0 (ji8)).f0) + a1))))) ?hg ?ho ?hn ?hr ?_; (case ho => rfl); (case hg => rfl); (case hn => rfl); (case hr => first | (go_simp; done) | (go_simp; rfl)); intro w17 hw; have hg : wx.grownBy w17 (some go13) := (by rw [hw]; exact HP16.2); have hp_ : Kd.S k34 34 w17 w.heap.size (fun _ => True) (.slice (some ⟨go13, 0, none⟩) l0.length c0) y178 := (by rw [hw, Ny178.out]; exact HP16.1); clear HP16; have n0_ := Aside0.mk (hp_); have n1_ := Aside0.mk (Kd.R_after (v := (.slice (some ⟨go13, 0, none⟩) l0.length c0)) (v1 := (.slice (some ⟨go13, 0, none⟩) l0.length c0)) (ok := (fun _ => True)) (by (with_reducible repeat (first | apply Kd.R_alloc | apply Kd.R_drewN | apply Kd.R_drew)); exact (Kd.R_mono HL175_1.out (fun _ hk => ⟨trivial, by first | exact hk | exact hk.2⟩))) hg (.inl rfl)); have n2_ := Aside0.mk (Kd.R_after (v := (.slice (some ⟨go13, 0, none⟩) l0.length c0)) (v1 := (.slice (some ⟨go13, 0, none⟩) l0.length c0)) (ok := (fun _ => True)) (by (with_reducible repeat (first | apply Kd.R_alloc | apply Kd.R_drewN | apply Kd.R_drew)); exact (Kd.R_mono HL177_1.out (fun _ hk => ⟨trivial, by first | exact hk | exact hk.2⟩))) hg (.inl rfl)); have n3_ := Aside0.mk ((by rw [hw]; exact below_set (HB.out) GB13.out : Below w.heap.size w w17)); clear HO174; clear HL175_1; clear HL177_1; clear HB; have HO174 := n0_; have HL175_1 := n1_; have HL177_1 := n2_; have HB := n3_; clear n0_ n1_ n2_ n3_; clear hg hw hp_))
            go_ret
            exact ⟨_, by first | rfl | (simp [errW_none, errW_some] <;> rfl) | (simp only [← hji8]; first | rfl | (simp [errW_none, errW_some] <;> rfl)) | (simp [*, errW_none, errW_some] <;> rfl), by (with_reducible repeat (first | apply Kd.S_alloc | apply Kd.S_drewN | apply Kd.S_drew)); exact HO174.out, by repeat (first | (with_reducible first | exact HB.out | apply below_alloc | apply pw_below_drewN | apply below_drew1) | exact HB.out | exact Below.refl _ _)⟩
          · replace c12 := Bool.eq_false_iff.mpr c12
            subst c12
            have H1 : ((some (([] : List (S46)) : List (S46))).bind fun y179 => (if y179.length + l2.length < 2932031007402 then (if l0.length < 4398046511104 then (some (l0 ++ [(⟨a1, (y179 ++ l2)⟩ : S34)])) else (none)) else (none))) = some r := by rw [if_neg (show ¬ (false = true) by decide)] at H; exact H
            clear H
            have H := H1
            clear H1
            obtain ⟨y179, hy179⟩ : ∃ y_ : List (S46), y_ = (([] : List (S46))) := ⟨_, rfl⟩
            replace H : (if y179.length + l2.length < 2932031007402 then (if l0.length < 4398046511104 then (some (l0 ++ [(⟨a1, (y179 ++ l2)⟩ : S34)])) else (none)) else (none)) = some r := by first | (rw [hy179]; with_reducible exact H) | (have H2_ := (Option.bind_some _ _).symm.trans H; rw [hy179]; with_reducible exact H2_) | (have H2_ := (Option.bind_some _ _).symm.trans H; with_reducible exact H2_) | with_reducible exact H | (rw [hy179]; exact H) | exact H
            have Ny179 := Aside0.mk hy179
            clear hy179
            by_cases c18 : y179.length + l2.length < 2932031007402
            · rw [if_pos c18] at H
              have LMc18 := Aside0.mk c18
              clear c18
              obtain ⟨y182, hy182⟩ : ∃ y_ : List (S46), y_ = (y179 ++ l2) := ⟨_, rfl⟩
              replace H : (if l0.length < 4398046511104 then (some (l0 ++ [(⟨a1, y182⟩ : S34)])) else (none)) = some r := by first | (rw [hy182]; with_reducible exact H) | (have H2_ := (Option.bind_some _ _).symm.trans H; rw [hy182]; with_reducible exact H2_) | (have H2_ := (Option.bind_some _ _).symm.trans H; with_reducible exact H2_) | with_reducible exact H | (rw [hy182]; exact H) | exact H
              have Ny182 := Aside0.mk hy182
              clear hy182
              by_cases c19 : l0.length < 4398046511104
              · rw [if_pos c19] at H
                have LMc19 := Aside0.mk c19
                clear c19
                obtain ⟨y185, hy185⟩ : ∃ y_ : List (S34), y_ = (l0 ++ [(⟨a1, y182⟩ : S34)]) := ⟨_, rfl⟩
                replace H : (some y185) = some r := by first | (rw [hy185]; with_reducible exact H) | (have H2_ := (Option.bind_some _ _).symm.trans H; rw [hy185]; with_reducible exact H2_) | (have H2_ := (Option.bind_some _ _).symm.trans H; with_reducible exact H2_) | with_reducible exact H | (rw [hy185]; exact H) | exact H
                have Ny185 := Aside0.mk hy185
                clear hy185
                obtain rfl := Option.some.inj H
                go_enter Try.func27, Try.ntmps27
                have p175 : 0 ≤ ((ji8) : Int) := of_decide_eq_true (by first | (with_reducible assumption) | assumption)
                have q175 : (ji8) < (l0.length : Int) := of_decide_eq_true (by first | (with_reducible assumption) | assumption)
                obtain ⟨ad175, A175_1, c175_1, e175, hx175_0, hx175_1, hl175_1, hi175_1⟩ := at_T34 (Kd.S_reads' HO174.out).2.2 (ji8) p175 q175
                cases e175
                obtain ⟨ce175, hce175, hMe175, hcc175⟩ := Kd.S_get HO174.out z34 (ji8) p175 (by first | exact q175 | exact of_decide_eq_true (by first | (with_reducible assumption) | assumption) | (have e_ := (Kd.S_reads' HO174.out).1; omega))
                obtain ⟨ve175_1, rfl, ge175_1⟩ := k34_openM hMe175
                have hv175_1 := hcc175 1 _ rfl
                rw [add_field _ _ 1 (by omega)] at hv175_1
                replace hv175_1 := Option.some.inj (hv175_1.symm.trans hx175_1)
                rw [hv175_1] at ge175_1
                have HL175_1 := Aside0.mk (show Kd.R k46 46 _ _ _ _ ((rd_T34 l0 (ji8)).f1) from ge175_1)
                clear hv175_1 ge175_1
                clear hcc175 hce175
                have HR175_1 := Aside0.mk hi175_1
                have HC175_1 := Aside0.mk hl175_1
                clear hi175_1 hl175_1
                replace p175 := eq_true p175
                replace q175 := eq_true q175
                go_wp2_with (first | (go_at_call 15; (with_reducible refine (rubricref05_Same.calls k _ _ ((rd_T34 l0 (ji8)).f1) _ _ l2 false _ ?side1 ?side2 ?side3 ?side4 A11.out).mono ?_); (case side1 => repeat (first | exact (by repeat (first | (with_reducible exact HR175_1.out) | (with_reducible refine Kd.C_alloc ?_ _) | (with_reducible refine Kd.C_drewN ?_ _) | (with_reducible refine Kd.C_drew ?_) | exact HR175_1.out)) | (with_reducible refine Kd.C_alloc ?_ _) | (with_reducible refine Kd.C_drewN ?_ _) | (with_reducible refine Kd.C_drew ?_))); (case side2 => exact HC175_1.out); (case side3 => repeat (first | exact (Kd.C_below HR2.out HB.out) | (with_reducible refine Kd.C_alloc ?_ _) | (with_reducible refine Kd.C_drewN ?_ _) | (with_reducible refine Kd.C_drew ?_))); (case side4 => exact HC2.out); rintro e w' ⟨rfl, ⟨nd, rfl⟩⟩) | ((with_reducible refine gate_dst (N := 39) rfl ?_); refine Kd.R_lit k46 _ 46 ?hg (N := 39) ?hd (xs := ([] : List (S46))) (inner := []) (ok := fun _ => True) (okp := fun _ => True) ?hr ?hp (fun _ hk => hk) trivial (Below.refl _ _) (Nat.le_refl _) (by simp) ?_; (case hd => rfl); (case hg => rfl); (case hr => first | (go_simp; done) | (go_simp; rfl)); (case hp => exact (Reps.none _ _)); intro v180 w22 ho23 hb hg_ hnew_; clear hg_ hnew_; (first | rw [← Ny179.out] at ho23 | (simp only [Int.reduceToNat] at ho23; rw [← Ny179.out] at ho23)); have n0_ := Aside0.mk (Kd.S_elder' (by (with_reducible repeat (first | apply Kd.S_alloc | apply Kd.S_drewN | apply Kd.S_drew)); exact HO174.out) (Kd.R_base ho23) hb); have n1_ := Aside0.mk (Kd.R_elder' (by (with_reducible repeat (first | apply Kd.R_alloc | apply Kd.R_drewN | apply Kd.R_drew)); exact HL175_1.out) (Kd.R_base ho23) hb); have n2_ := Aside0.mk (Kd.R_lower (Kd.R_new' ho23 (Kd.R_lt (by (with_reducible repeat (first | apply Kd.R_alloc | apply Kd.R_drewN | apply Kd.R_drew)); exact HL175_1.out))) (below_size (by repeat (first | (with_reducible first | exact HB.out | apply below_alloc | apply pw_below_drewN | apply below_drew1) | exact HB.out | exact Below.refl _ _)))); have n3_ := Aside0.mk (Kd.C_below (by repeat (first | (with_reducible exact HR175_1.out) | (with_reducible refine Kd.C_alloc ?_ _) | (with_reducible refine Kd.C_drewN ?_ _) | (with_reducible refine Kd.C_drew ?_) | exact HR175_1.out)) hb); have n4_ := Aside0.mk (below_step (by repeat (first | (with_reducible first | exact HB.out | apply below_alloc | apply pw_below_drewN | apply below_drew1) | exact HB.out | exact Below.refl _ _)) hb); clear HO174; clear HL175_1; clear HR175_1; clear HB; have HO174 := n0_; have HL175_1 := n1_; have HO181 := n2_; have HR175_1 := n3_; have HB := n4_; clear n0_ n1_ n2_ n3_ n4_; clear hb ho23) | ((with_reducible refine gate_builtin (b := .append) (xs := #[.tmp 39, .tmp 40]) rfl ?_); at_builtin; refine Kd.R_append_rows k46 (w0 := w) w.heap.size rfl (.tmp 39) (.tmp 40) 24 46 (.agg #[(.int .i64 0), (.int .u8 0), (.int .i64 0), (.int .u64 0), (.string ⟨#[]⟩)]) 48 rfl Try.underlying24 info46 rfl (by decide) (by omega) v180 y179 l2 _ _ _ (fun k_ => some k_ ≠ (.slice A175_1 ((rd_T34 l0 (ji8)).f1).length c175_1 : Value).ownBlock) (fun _ => False) rfl rfl ?aO ?aR (fun _ _ h => h) (fun _ h => h.elim) ?aF ?aB ?aS ?aL ?_; (case aR => repeat (first | exact (Kd.C_below HR2.out HB.out) | (with_reducible refine Kd.C_alloc ?_ _) | (with_reducible refine Kd.C_drewN ?_ _) | (with_reducible refine Kd.C_drew ?_))); (case aB => exact (by repeat (first | (with_reducible first | exact HB.out | apply below_alloc | apply pw_below_drewN | apply below_drew1) | exact HB.out | exact Below.refl _ _))); (case aF => exact (fun k_ hk => Kd.fresh' (Kd.R_lt (by (with_reducible repeat (first | apply Kd.R_alloc | apply Kd.R_drewN | apply Kd.R_drew)); exact HL175_1.out)) k_ hk)); (case aO => exact (by (with_reducible repeat (first | apply Kd.R_alloc | apply Kd.R_drewN | apply Kd.R_drew)); exact Kd.R_mono HO181.out (fun _ hk => hk.2))); (case aS => exact (below_size (by repeat (first | (with_reducible first | exact HB.out | apply below_alloc | apply pw_below_drewN | apply below_drew1) | exact HB.out | exact Below.refl _ _)))); (case aL => have := LMc18.out; omega); intro v183 w24 ho hb hg hat; rw [← Ny182.out] at ho; have n0_ := Aside0.mk (Kd.S_after (ok := (fun _ => True)) (by (with_reducible repeat (first | apply Kd.S_alloc | apply Kd.S_drewN | apply Kd.S_drew)); exact HO174.out) hg hat); have n1_ := Aside0.mk (Kd.R_after (ok := (fun k_ => some k_ ≠ (.slice (some ad175) l0.length c0 : Value).ownBlock)) (by (with_reducible repeat (first | apply Kd.R_alloc | apply Kd.R_drewN | apply Kd.R_drew)); exact Kd.R_mono HL175_1.out (fun _ hk => ⟨hk.1.2, hk.2⟩)) hg hat); have n2_ := Aside0.mk (hb); have n3_ := Aside0.mk (ho); clear HO174; clear HL175_1; clear HB; clear HO181; have HO174 := n0_; have HL175_1 := n1_; have HB := n2_; have HO184 := n3_; clear n0_ n1_ n2_ n3_; clear ho hb hg hat; obtain ⟨Ao25, co25, eo25⟩ := Kd.R_slice HO184.out; subst eo25) | ((with_reducible refine gate_builtin (b := .append) (xs := #[.tmp 37, .tmp 43]) rfl ?_); at_builtin; refine Kd.S_append k34 (w0 := w) w.heap.size rfl (.tmp 37) (.tmp 43) 27 34 (.agg #[(.int .i64 0), (.slice none 0 0)]) 32 rfl Try.underlying27 info34 rfl (by decide) (by omega) (.slice (some ad175) l0.length c0) l0 (⟨a1, y182⟩ : S34) [.int .i64 a1, .slice Ao25 y182.length co25] (fun _ => True) (fun k_ => some k_ = (.slice Ao25 y182.length co25 : Value).ownBlock) rfl rfl ?aP (fun k_ hk_ => ((Kd.R_mono (ok' := fun k_ => ((fun _ => True)) k_ ∧ some k_ ≠ (.slice (some ad175) l0.length c0 : Value).ownBlock) (Kd.R_apart' (HO184.out) (Kd.S_typed HO174.out) (by decide)) (fun k_ hk => ⟨trivial, hk.2⟩))).1 k_ hk_.symm) ?aF ?aO ?aB ?aS ?aL ?_; (case aP => exact k34_mkM _ _ _ (⟨a1, y182⟩ : S34) (Kd.R_mono (Kd.R_tight rfl (Kd.R_mono (ok' := fun k_ => ((fun _ => True)) k_ ∧ some k_ ≠ (.slice (some ad175) l0.length c0 : Value).ownBlock) (Kd.R_apart' (HO184.out) (Kd.S_typed HO174.out) (by decide)) (fun k_ hk => ⟨trivial, hk.2⟩))) (fun _ h_ => h_))); (case aB => exact (by repeat (first | (with_reducible first | exact HB.out | apply below_alloc | apply pw_below_drewN | apply below_drew1) | exact HB.out | exact Below.refl _ _))); (case aF => exact (fun _ _ => trivial)); (case aO => exact (by (with_reducible repeat (first | apply Kd.S_alloc | apply Kd.S_drewN | apply Kd.S_drew)); exact Kd.S_mono HO174.out (fun k_ hk => ⟨trivial, fun e_ => hk.2 e_⟩))); (case aS => exact (below_size (by repeat (first | (with_reducible first | exact HB.out | apply below_alloc | apply pw_below_drewN | apply below_drew1) | exact HB.out | exact Below.refl _ _)))); (case aL => have := LMc19.out; omega); intro v186 w26 ho hb hg hat; rw [← Ny185.out] at ho; have n0_ := Aside0.mk (Kd.R_after (ok := (fun k_ => some k_ ≠ (.slice Ao25 y182.length co25 : Value).ownBlock)) (by (with_reducible repeat (first | apply Kd.R_alloc | apply Kd.R_drewN | apply Kd.R_drew)); exact Kd.R_mono HL175_1.out (fun _ hk => ⟨hk.2, hk.1⟩)) hg hat); have n1_ := Aside0.mk (hb); have n2_ := Aside0.mk (ho); clear HL175_1; clear HB; clear HO174; clear HO184; have HL175_1 := n0_; have HB := n1_; have HO187 := n2_; clear n0_ n1_ n2_; clear ho hb hg hat))
                go_ret
                exact ⟨_, by first | rfl | (simp [errW_none, errW_some] <;> rfl) | (simp only [← hji8]; first | rfl | (simp [errW_none, errW_some] <;> rfl)) | (simp [*, errW_none, errW_some] <;> rfl), by (with_reducible repeat (first | apply Kd.S_alloc | apply Kd.S_drewN | apply Kd.S_drew)); exact HO187.out, by repeat (first | (with_reducible first | exact HB.out | apply below_alloc | apply pw_below_drewN | apply below_drew1) | exact HB.out | exact Below.refl _ _)⟩
              · rw [if_neg c19] at H
                exact absurd H (by simp)
            · rw [if_neg c18] at H
              exact absurd H (by simp)
        · rw [if_neg c10] at H
          exact absurd H (by simp)
      · rw [if_neg c9] at H
        exact absurd H (by simp)
    · rw [if_neg c7] at H
      have c7b0 : decide (0 ≤ (wrap64 ((l0.length : Int) - 1))) = false := decide_eq_false c7
      clear c7
      obtain ⟨y188, hy188⟩ : ∃ y_ : List (S46), y_ = (([] : List (S46))) := ⟨_, rfl⟩
      replace H : (if y188.length + l2.length < 2932031007402 then (if l0.length < 4398046511104 then (some (l0 ++ [(⟨a1, (y188 ++ l2)⟩ : S34)])) else (none)) else (none)) = some r := by first | (rw [hy188]; with_reducible exact H) | (have H2_ := (Option.bind_some _ _).symm.trans H; rw [hy188]; with_reducible exact H2_) | (have H2_ := (Option.bind_some _ _).symm.trans H; with_reducible exact H2_) | with_reducible exact H | (rw [hy188]; exact H) | exact H
      have Ny188 := Aside0.mk hy188
      clear hy188
      by_cases c27 : y188.length + l2.length < 2932031007402
      · rw [if_pos c27] at H
        have LMc27 := Aside0.mk c27
        clear c27
        obtain ⟨y191, hy191⟩ : ∃ y_ : List (S46), y_ = (y188 ++ l2) := ⟨_, rfl⟩
        replace H : (if l0.length < 4398046511104 then (some (l0 ++ [(⟨a1, y191⟩ : S34)])) else (none)) = some r := by first | (rw [hy191]; with_reducible exact H) | (have H2_ := (Option.bind_some _ _).symm.trans H; rw [hy191]; with_reducible exact H2_) | (have H2_ := (Option.bind_some _ _).symm.trans H; with_reducible exact H2_) | with_reducible exact H | (rw [hy191]; exact H) | exact H
        have Ny191 := Aside0.mk hy191
        clear hy191
        by_cases c28 : l0.length < 4398046511104
        · rw [if_pos c28] at H
          have LMc28 := Aside0.mk c28
          clear c28
          obtain ⟨y194, hy194⟩ : ∃ y_ : List (S34), y_ = (l0 ++ [(⟨a1, y191⟩ : S34)]) := ⟨_, rfl⟩
          replace H : (some y194) = some r := by first | (rw [hy194]; with_reducible exact H) | (have H2_ := (Option.bind_some _ _).symm.trans H; rw [hy194]; with_reducible exact H2_) | (have H2_ := (Option.bind_some _ _).symm.trans H; with_reducible exact H2_) | with_reducible exact H | (rw [hy194]; exact H) | exact H
          have Ny194 := Aside0.mk hy194
          clear hy194
          obtain rfl := Option.some.inj H
          go_enter Try.func27, Try.ntmps27
          go_wp2_with (first | ((with_reducible refine gate_dst (N := 39) rfl ?_); refine Kd.R_lit k46 _ 46 ?hg (N := 39) ?hd (xs := ([] : List (S46))) (inner := []) (ok := fun _ => True) (okp := fun _ => True) ?hr ?hp (fun _ hk => hk) trivial (Below.refl _ _) (Nat.le_refl _) (by simp) ?_; (case hd => rfl); (case hg => rfl); (case hr => first | (go_simp; done) | (go_simp; rfl)); (case hp => exact (Reps.none _ _)); intro v189 w31 ho32 hb hg_ hnew_; clear hg_ hnew_; (first | rw [← Ny188.out] at ho32 | (simp only [Int.reduceToNat] at ho32; rw [← Ny188.out] at ho32)); have n0_ := Aside0.mk (Kd.S_elder' (by (with_reducible repeat (first | apply Kd.S_alloc | apply Kd.S_drewN | apply Kd.S_drew)); exact HO174.out) (Kd.R_base ho32) hb); have n1_ := Aside0.mk (Kd.R_lower ho32 (below_size (by repeat (first | (with_reducible first | exact HB.out | apply below_alloc | apply pw_below_drewN | apply below_drew1) | exact HB.out | exact Below.refl _ _)))); have n2_ := Aside0.mk (below_step (by repeat (first | (with_reducible first | exact HB.out | apply below_alloc | apply pw_below_drewN | apply below_drew1) | exact HB.out | exact Below.refl _ _)) hb); clear HO174; clear HB; have HO174 := n0_; have HO190 := n1_; have HB := n2_; clear n0_ n1_ n2_; clear hb ho32) | ((with_reducible refine gate_builtin (b := .append) (xs := #[.tmp 39, .tmp 40]) rfl ?_); at_builtin; refine Kd.R_append_rows k46 (w0 := w) w.heap.size rfl (.tmp 39) (.tmp 40) 24 46 (.agg #[(.int .i64 0), (.int .u8 0), (.int .i64 0), (.int .u64 0), (.string ⟨#[]⟩)]) 48 rfl Try.underlying24 info46 rfl (by decide) (by omega) v189 y188 l2 _ _ _ (fun _ => True) (fun _ => False) rfl rfl ?aO ?aR (fun _ _ h => h) (fun _ h => h.elim) ?aF ?aB ?aS ?aL ?_; (case aR => repeat (first | exact (Kd.C_below HR2.out HB.out) | (with_reducible refine Kd.C_alloc ?_ _) | (with_reducible refine Kd.C_drewN ?_ _) | (with_reducible refine Kd.C_drew ?_))); (case aB => exact (by repeat (first | (with_reducible first | exact HB.out | apply below_alloc | apply pw_below_drewN | apply below_drew1) | exact HB.out | exact Below.refl _ _))); (case aF => exact (fun _ _ => trivial)); (case aO => exact (by (with_reducible repeat (first | apply Kd.R_alloc | apply Kd.R_drewN | apply Kd.R_drew)); exact HO190.out)); (case aS => exact (below_size (by repeat (first | (with_reducible first | exact HB.out | apply below_alloc | apply pw_below_drewN | apply below_drew1) | exact HB.out | exact Below.refl _ _)))); (case aL => have := LMc27.out; omega); intro v192 w33 ho hb hg hat; rw [← Ny191.out] at ho; have n0_ := Aside0.mk (Kd.S_after (ok := (fun _ => True)) (by (with_reducible repeat (first | apply Kd.S_alloc | apply Kd.S_drewN | apply Kd.S_drew)); exact HO174.out) hg hat); have n1_ := Aside0.mk (hb); have n2_ := Aside0.mk (ho); clear HO174; clear HB; clear HO190; have HO174 := n0_; have HB := n1_; have HO193 := n2_; clear n0_ n1_ n2_; clear ho hb hg hat; obtain ⟨Ao34, co34, eo34⟩ := Kd.R_slice HO193.out; subst eo34) | ((with_reducible refine gate_builtin (b := .append) (xs := #[.tmp 37, .tmp 43]) rfl ?_); at_builtin; refine Kd.S_append k34 (w0 := w) w.heap.size rfl (.tmp 37) (.tmp 43) 27 34 (.agg #[(.int .i64 0), (.slice none 0 0)]) 32 rfl Try.underlying27 info34 rfl (by decide) (by omega) (.slice A0 l0.length c0) l0 (⟨a1, y191⟩ : S34) [.int .i64 a1, .slice Ao34 y191.length co34] (fun _ => True) (fun k_ => some k_ = (.slice Ao34 y191.length co34 : Value).ownBlock) rfl rfl ?aP (fun k_ hk_ => ((Kd.R_mono (ok' := fun k_ => ((fun _ => True)) k_ ∧ some k_ ≠ (.slice A0 l0.length c0 : Value).ownBlock) (Kd.R_apart' (HO193.out) (Kd.S_typed HO174.out) (by decide)) (fun k_ hk => ⟨trivial, hk.2⟩))).1 k_ hk_.symm) ?aF ?aO ?aB ?aS ?aL ?_; (case aP => exact k34_mkM _ _ _ (⟨a1, y191⟩ : S34) (Kd.R_mono (Kd.R_tight rfl (Kd.R_mono (ok' := fun k_ => ((fun _ => True)) k_ ∧ some k_ ≠ (.slice A0 l0.length c0 : Value).ownBlock) (Kd.R_apart' (HO193.out) (Kd.S_typed HO174.out) (by decide)) (fun k_ hk => ⟨trivial, hk.2⟩))) (fun _ h_ => h_))); (case aB => exact (by repeat (first | (with_reducible first | exact HB.out | apply below_alloc | apply pw_below_drewN | apply below_drew1) | exact HB.out | exact Below.refl _ _))); (case aF => exact (fun _ _ => trivial)); (case aO => exact (by (with_reducible repeat (first | apply Kd.S_alloc | apply Kd.S_drewN | apply Kd.S_drew)); exact Kd.S_mono HO174.out (fun k_ hk => ⟨trivial, fun e_ => hk.2 e_⟩))); (case aS => exact (below_size (by repeat (first | (with_reducible first | exact HB.out | apply below_alloc | apply pw_below_drewN | apply below_drew1) | exact HB.out | exact Below.refl _ _)))); (case aL => have := LMc28.out; omega); intro v195 w35 ho hb hg hat; rw [← Ny194.out] at ho; have n0_ := Aside0.mk (hb); have n1_ := Aside0.mk (ho); clear HB; clear HO174; clear HO193; have HB := n0_; have HO196 := n1_; clear n0_ n1_; clear ho hb hg hat))
          go_ret
          exact ⟨_, by first | rfl | (simp [errW_none, errW_some] <;> rfl) | (simp [*, errW_none, errW_some] <;> rfl), by (with_reducible repeat (first | apply Kd.S_alloc | apply Kd.S_drewN | apply Kd.S_drew)); exact HO196.out, by repeat (first | (with_reducible first | exact HB.out | apply below_alloc | apply pw_below_drewN | apply below_drew1) | exact HB.out | exact Below.refl _ _)⟩
        · rw [if_neg c28] at H
          exact absurd H (by simp)
      · rw [if_neg c27] at H
        exact absurd H (by simp)
end Go.Proofs.Ytpnoeggnniagfaa.P
namespace Go.Proofs.Ytpnoeggnniagfaa.P
open Go.RowKit Go.Proofs.YtpnoeggnniagfaaW.PrintWords Go.Proofs.YtpnoeggnniagfaaW.PrintLast Go.Proofs.YtpnoeggnniagfaaW.PrintMore
attribute [local go_sem] max2_int min2_int max_two min_two max_three min_three max_four min_four   -- for this text's walks alone
set_option linter.unusedVariables false
set_option linter.unusedSimpArgs false
/-! ### rubricref12_Of: function 16 -/
/-! ### blocks_Proper: function 17 -/
def blocks_Proper.l0 : Nat → List (S34) → List (S34) → Int → Int → Option (Bool)
  | 0, _, _, _, _ => none
  | k + 1, x0, x5, x6, x7 => if x7 < x6 then (if 0 ≤ x7 then (if x7 < (x5.length : Int) then (if ((rd_T34 x5 x7).f0) ≤ 0 then (some false) else (if x7 > 0 then (if 0 ≤ (wrap64 (x7 - 1)) then (if (wrap64 (x7 - 1)) < (x0.length : Int) then ((attrs_Same.f k ((rd_T34 x0 (wrap64 (x7 - 1))).f1) ((rd_T34 x5 x7).f1)).bind fun t208 => (if t208 = true then (some false) else (blocks_Proper.l0 k x0 x5 x6 (wrap64 (x7 + 1))))) else (none)) else (none)) else (blocks_Proper.l0 k x0 x5 x6 (wrap64 (x7 + 1))))) else (none)) else (none)) else (some true)
def blocks_Proper.f (k : Nat) (l0 : List (S34)) : Option (Bool) := blocks_Proper.l0 k l0 l0 (l0.length : Int) 0
set_option maxHeartbeats 8000000 in
set_option maxRecDepth 100000 in
theorem blocks_Proper.calls (k : Nat) (A0 : Option Addr) (c0 : Nat) (l0 : List (S34)) (r : Bool) (w : World) (hr0 : Kd.C k34 w A0 l0.length l0) (hc0 : l0.length ≤ c0) (h : blocks_Proper.f k l0 = some r) :
    Calls Try.prog 17 #[.slice A0 l0.length c0] w fun e w' => e = .returned (.bool r) ∧ Below w.heap.size w w' := by
  have hu34 := Try.underlying34
  have HR0 := Aside0.mk hr0
  have HC0 := Aside0.mk hc0
  clear hr0 hc0
  have HB := Aside0.mk (Below.refl w.heap.size w)
  have H : (blocks_Proper.l0 k l0 l0 (l0.length : Int) 0) = some r := h
  clear h
  have H' := Aside0.mk H
  clear H
  go_enter Try.func17, Try.ntmps17
  go_wp2
  repeat (go_quiet (fail); try go_wp2)
  go_loopg [7] k (fun kq v7 w' => ∃ (x7_1 : Int), v7 = .int .i64 x7_1 ∧ Aside0 (blocks_Proper.l0 kq l0 l0 (l0.length : Int) x7_1 = some r) ∧ Aside0 (kq ≤ k) ∧ Aside0 (Below w.heap.size w w'))
  case atStart => exact ⟨(0), (by first | rfl | (simp; done) | (simp [*]; done)), H', ⟨Nat.le_refl _⟩, ⟨by repeat (first | (with_reducible first | exact HB.out | apply below_alloc | apply pw_below_drewN | apply below_drew1) | exact HB.out | exact Below.refl _ _)⟩⟩
  case round =>
    clear H'
    try clear c1
    obtain ⟨x7_1, rfl, HA, HK1, HB⟩ := hrel
    cases gk with
    | zero => exact absurd HA.out (by simp [blocks_Proper.l0])
    | succ k1 =>
      have H := HA.out
      clear HA
      simp only [blocks_Proper.l0] at H
      by_cases c2 : x7_1 < (l0.length : Int)
      · rw [if_pos c2] at H
        have c2b0 : decide (x7_1 < (l0.length : Int)) = true := decide_eq_true c2
        clear c2
        by_cases c3 : 0 ≤ x7_1
        · rw [if_pos c3] at H
          have c3b0 : decide (0 ≤ x7_1) = true := decide_eq_true c3
          clear c3
          by_cases c4 : x7_1 < (l0.length : Int)
          · rw [if_pos c4] at H
            have c4b0 : decide (x7_1 < (l0.length : Int)) = true := decide_eq_true c4
            clear c4
            by_cases c5 : ((rd_T34 l0 x7_1).f0) ≤ 0
            · rw [if_pos c5] at H
              have c5b0 : decide (((rd_T34 l0 x7_1).f0) ≤ 0) = true := decide_eq_true c5
              clear c5
              obtain rfl := Option.some.inj H
              have p205 : 0 ≤ (x7_1 : Int) := of_decide_eq_true (by first | (with_reducible assumption) | assumption)
              have q205 : x7_1 < (l0.length : Int) := of_decide_eq_true (by first | (with_reducible assumption) | assumption)
              obtain ⟨ad205, A205_1, c205_1, e205, hx205_0, hx205_1, hl205_1, hi205_1⟩ := at_T34 HR0.out x7_1 p205 q205
              cases e205
              replace hx205_0 := (HB.out.cell (World.block_lt_of_cell? w _ hx205_0)).trans hx205_0
              replace hx205_1 := (HB.out.cell (World.block_lt_of_cell? w _ hx205_1)).trans hx205_1
              have HR205_1 := Aside0.mk hi205_1
              have HC205_1 := Aside0.mk hl205_1
              clear hi205_1 hl205_1
              replace p205 := eq_true p205
              replace q205 := eq_true q205
              go_wp2_with (first | ((with_reducible refine gate_dst (N := 4) rfl ?_); refine box_event ?hg (N := 4) ?hd (cs := #[.int .i64 0, .slice none 0 0]) (t := 34) ?hr ?_; (case hd => rfl); (case hg => rfl); (case hr => first | (go_simp; done) | (go_simp; rfl)); intro gb206 hg w6 hbox hb; have n0_ := Aside0.mk (below_step (by repeat (first | (with_reducible first | exact HB.out | apply below_alloc | apply pw_below_drewN | apply below_drew1) | exact HB.out | exact Below.refl _ _)) hb); have n1_ := Aside0.mk (hbox); have n2_ := Aside0.mk ((by rw [hg]; exact (below_size (by repeat (first | (with_reducible first | exact HB.out | apply below_alloc | apply pw_below_drewN | apply below_drew1) | exact HB.out | exact Below.refl _ _))) : w.heap.size ≤ gb206)); have n3_ := Aside0.mk ((by rw [hg]; exact (below_size (by repeat (first | (with_reducible first | exact HB.out | apply below_alloc | apply pw_below_drewN | apply below_drew1) | exact HB.out | exact Below.refl _ _))) : w.heap.size ≤ gb206)); clear HB; have HB := n0_; have BK206 := n1_; have GW206 := n2_; have GE206 := n3_; clear n0_ n1_ n2_ n3_; clear hb hbox hg; have hcz7_0 : w6.cell? ⟨gb206, 0, none⟩ = some (.int .i64 0) := (blk_cell BK206.out 0).trans rfl; have hcz7_1 : w6.cell? ⟨gb206, 1, none⟩ = some (.slice none 0 0) := (blk_cell BK206.out 1).trans rfl; have hfz7_0 := blk_frozen BK206.out 0; have hfz7_1 := blk_frozen BK206.out 1))
              repeat (go_quiet (first | ((with_reducible refine gate_dst (N := 4) rfl ?_); refine box_event ?hg (N := 4) ?hd (cs := #[.int .i64 0, .slice none 0 0]) (t := 34) ?hr ?_; (case hd => rfl); (case hg => rfl); (case hr => first | (go_simp; done) | (go_simp; rfl)); intro gb206 hg w6 hbox hb; have n0_ := Aside0.mk (below_step (by repeat (first | (with_reducible first | exact HB.out | apply below_alloc | apply pw_below_drewN | apply below_drew1) | exact HB.out | exact Below.refl _ _)) hb); have n1_ := Aside0.mk (hbox); have n2_ := Aside0.mk ((by rw [hg]; exact (below_size (by repeat (first | (with_reducible first | exact HB.out | apply below_alloc | apply pw_below_drewN | apply below_drew1) | exact HB.out | exact Below.refl _ _))) : w.heap.size ≤ gb206)); have n3_ := Aside0.mk ((by rw [hg]; exact (below_size (by repeat (first | (with_reducible first | exact HB.out | apply below_alloc | apply pw_below_drewN | apply below_drew1) | exact HB.out | exact Below.refl _ _))) : w.heap.size ≤ gb206)); clear HB; have HB := n0_; have BK206 := n1_; have GW206 := n2_; have GE206 := n3_; clear n0_ n1_ n2_ n3_; clear hb hbox hg; have hcz7_0 : w6.cell? ⟨gb206, 0, none⟩ = some (.int .i64 0) := (blk_cell BK206.out 0).trans rfl; have hcz7_1 : w6.cell? ⟨gb206, 1, none⟩ = some (.slice none 0 0) := (blk_cell BK206.out 1).trans rfl; have hfz7_0 := blk_frozen BK206.out 0; have hfz7_1 := blk_frozen BK206.out 1)); try go_wp2_with (first | ((with_reducible refine gate_dst (N := 4) rfl ?_); refine box_event ?hg (N := 4) ?hd (cs := #[.int .i64 0, .slice none 0 0]) (t := 34) ?hr ?_; (case hd => rfl); (case hg => rfl); (case hr => first | (go_simp; done) | (go_simp; rfl)); intro gb206 hg w6 hbox hb; have n0_ := Aside0.mk (below_step (by repeat (first | (with_reducible first | exact HB.out | apply below_alloc | apply pw_below_drewN | apply below_drew1) | exact HB.out | exact Below.refl _ _)) hb); have n1_ := Aside0.mk (hbox); have n2_ := Aside0.mk ((by rw [hg]; exact (below_size (by repeat (first | (with_reducible first | exact HB.out | apply below_alloc | apply pw_below_drewN | apply below_drew1) | exact HB.out | exact Below.refl _ _))) : w.heap.size ≤ gb206)); have n3_ := Aside0.mk ((by rw [hg]; exact (below_size (by repeat (first | (with_reducible first | exact HB.out | apply below_alloc | apply pw_below_drewN | apply below_drew1) | exact HB.out | exact Below.refl _ _))) : w.heap.size ≤ gb206)); clear HB; have HB := n0_; have BK206 := n1_; have GW206 := n2_; have GE206 := n3_; clear n0_ n1_ n2_ n3_; clear hb hbox hg; have hcz7_0 : w6.cell? ⟨gb206, 0, none⟩ = some (.int .i64 0) := (blk_cell BK206.out 0).trans rfl; have hcz7_1 : w6.cell? ⟨gb206, 1, none⟩ = some (.slice none 0 0) := (blk_cell BK206.out 1).trans rfl; have hfz7_0 := blk_frozen BK206.out 0; have hfz7_1 := blk_frozen BK206.out 1)))
              go_ret
              exact ⟨by first | rfl | (simp [errW_none, errW_some] <;> rfl) | (simp [*, errW_none, errW_some] <;> rfl), by repeat (first | (with_reducible first | exact HB.out | apply below_alloc | apply pw_below_drewN | apply below_drew1 | refine below_set ?_ GE206.out) | exact HB.out)⟩
            · rw [if_neg c5] at H
              have c5b0 : decide (((rd_T34 l0 x7_1).f0) ≤ 0) = false := decide_eq_false c5
              clear c5
              by_cases c8 : x7_1 > 0
              · rw [if_pos c8] at H
                have c8b0 : decide (0 < x7_1) = true := decide_eq_true c8
                clear c8
                obtain ⟨ji9, hji9⟩ : ∃ j_ : Int, (wrap64 (x7_1 - 1)) = j_ := ⟨_, rfl⟩
                replace H : (if 0 ≤ (ji9) then (if (ji9) < (l0.length : Int) then ((attrs_Same.f k1 ((rd_T34 l0 (ji9)).f1) ((rd_T34 l0 x7_1).f1)).bind fun t208 => (if t208 = true then (some false) else (blocks_Proper.l0 k1 l0 l0 (l0.length : Int) (wrap64 (x7_1 + 1))))) else (none)) else (none)) = some r := by first | (rw [hji9] at H; exact H) | (simp only [hji9] at H ⊢; exact H)
                have hji9w : (IntKind.i64.wrap (x7_1 - 1)) = ji9 := (i64_w _).trans hji9
                by_cases c10 : 0 ≤ (ji9)
                · rw [if_pos c10] at H
                  have c10b0 : decide (0 ≤ (ji9)) = true := decide_eq_true c10
                  clear c10
                  by_cases c11 : (ji9) < (l0.length : Int)
                  · rw [if_pos c11] at H
                    have c11b0 : decide ((ji9) < (l0.length : Int)) = true := decide_eq_true c11
                    clear c11
                    replace H := Option.bind_eq_some_iff.mp H
                    obtain ⟨t208, A120, H⟩ := H
                    replace H : (if t208 = true then (some false) else (blocks_Proper.l0 k1 l0 l0 (l0.length : Int) (wrap64 (x7_1 + 1)))) = some r := H
                    have A12 := Aside0.mk A120
                    clear A120
                    by_cases c13 : t208 = true
                    · subst c13
                      have H1 : (some false) = some r := by rw [if_pos rfl] at H; exact H
                      clear H
                      have H := H1
                      clear H1
                      obtain rfl := Option.some.inj H
                      have p205 : 0 ≤ (x7_1 : Int) := of_decide_eq_true (by first | (with_reducible assumption) | assumption)
                      have q205 : x7_1 < (l0.length : Int) := of_decide_eq_true (by first | (with_reducible assumption) | assumption)
                      obtain ⟨ad205, A205_1, c205_1, e205, hx205_0, hx205_1, hl205_1, hi205_1⟩ := at_T34 HR0.out x7_1 p205 q205
                      cases e205
                      replace hx205_0 := (HB.out.cell (World.block_lt_of_cell? w _ hx205_0)).trans hx205_0
                      replace hx205_1 := (HB.out.cell (World.block_lt_of_cell? w _ hx205_1)).trans hx205_1
                      have HR205_1 := Aside0.mk hi205_1
                      have HC205_1 := Aside0.mk hl205_1
                      clear hi205_1 hl205_1
                      replace p205 := eq_true p205
                      replace q205 := eq_true q205
                      go_wp2_with (first | ((with_reducible refine gate_dst (N := 4) rfl ?_); refine box_event ?hg (N := 4) ?hd (cs := #[.int .i64 0, .slice none 0 0]) (t := 34) ?hr ?_; (case hd => rfl); (case hg => rfl); (case hr => first | (go_simp; done) | (go_simp; rfl)); intro gb206 hg w14 hbox hb; have n0_ := Aside0.mk (below_step (by repeat (first | (with_reducible first | exact HB.out | apply below_alloc | apply pw_below_drewN | apply below_drew1) | exact HB.out | exact Below.refl _ _)) hb); have n1_ := Aside0.mk (hbox); have n2_ := Aside0.mk ((by rw [hg]; exact (below_size (by repeat (first | (with_reducible first | exact HB.out | apply below_alloc | apply pw_below_drewN | apply below_drew1) | exact HB.out | exact Below.refl _ _))) : w.heap.size ≤ gb206)); have n3_ := Aside0.mk ((by rw [hg]; exact (below_size (by repeat (first | (with_reducible first | exact HB.out | apply below_alloc | apply pw_below_drewN | apply below_drew1) | exact HB.out | exact Below.refl _ _))) : w.heap.size ≤ gb206)); clear HB; have HB := n0_; have BK206 := n1_; have GW206 := n2_; have GE206 := n3_; clear n0_ n1_ n2_ n3_; clear hb hbox hg; have hcz15_0 : w14.cell? ⟨gb206, 0, none⟩ = some (.int .i64 0) := (blk_cell BK206.out 0).trans rfl; have hcz15_1 : w14.cell? ⟨gb206, 1, none⟩ = some (.slice none 0 0) := (blk_cell BK206.out 1).trans rfl; have hfz15_0 := blk_frozen BK206.out 0; have hfz15_1 := blk_frozen BK206.out 1; have p207 : 0 ≤ ((ji9) : Int) := of_decide_eq_true (by first | (with_reducible assumption) | assumption); have q207 : (ji9) < (l0.length : Int) := of_decide_eq_true (by first | (with_reducible assumption) | assumption); obtain ⟨ad207, A207_1, c207_1, e207, hx207_0, hx207_1, hl207_1, hi207_1⟩ := at_T34 HR0.out (ji9) p207 q207; obtain rfl : ad205 = ad207 := (by injection e207); have hn207_0 : ad205.block ≠ gb206 := Nat.ne_of_lt (Nat.lt_of_lt_of_le (by have := World.block_lt_of_cell? _ _ hx207_0; first | rwa [add_block] at this | exact this) GW206.out); have hn207_1 : ad205.block ≠ gb206 := Nat.ne_of_lt (Nat.lt_of_lt_of_le (by have := World.block_lt_of_cell? _ _ hx207_0; first | rwa [add_block] at this | exact this) GW206.out); replace hx207_0 := (HB.out.cell (World.block_lt_of_cell? w _ hx207_0)).trans hx207_0; replace hx207_1 := (HB.out.cell (World.block_lt_of_cell? w _ hx207_1)).trans hx207_1; have HR207_1 := Aside0.mk hi207_1; have HC207_1 := Aside0.mk hl207_1; clear hi207_1 hl207_1; replace hx207_0 := (cell_far (p := ⟨gb206, 0, none⟩) (by first | (rw [add_block]; exact hn207_0) | (show (Addr.add _ _).block ≠ _; rw [add_block]; exact hn207_0) | exact hn207_0) (.int .i64 ((rd_T34 l0 x7_1).f0))).trans hx207_0; replace hx207_1 := (cell_far (p := ⟨gb206, 0, none⟩) (by first | (rw [add_block]; exact hn207_0) | (show (Addr.add _ _).block ≠ _; rw [add_block]; exact hn207_0) | exact hn207_0) (.int .i64 ((rd_T34 l0 x7_1).f0))).trans hx207_1; replace hx207_0 := (cell_far (p := ⟨gb206, 1, none⟩) (by first | (rw [add_block]; exact hn207_1) | (show (Addr.add _ _).block ≠ _; rw [add_block]; exact hn207_1) | exact hn207_1) (.slice A205_1 ((rd_T34 l0 x7_1).f1).length c205_1)).trans hx207_0; replace hx207_1 := (cell_far (p := ⟨gb206, 1, none⟩) (by first | (rw [add_block]; exact hn207_1) | (show (Addr.add _ _).block ≠ _; rw [add_block]; exact hn207_1) | exact hn207_1) (.slice A205_1 ((rd_T34 l0 x7_1).f1).length c205_1)).trans hx207_1; (try have hy207_0 := fun (n_ : Nat) => (show ((((w14.drewN n_).setCell ⟨gb206, 0, none⟩ (.int .i64 ((rd_T34 l0 x7_1).f0))).setCell ⟨gb206, 1, none⟩ (.slice A205_1 ((rd_T34 l0 x7_1).f1).length c205_1))).cell? _ = some _ from hx207_0)); (try have hy207_1 := fun (n_ : Nat) => (show ((((w14.drewN n_).setCell ⟨gb206, 0, none⟩ (.int .i64 ((rd_T34 l0 x7_1).f0))).setCell ⟨gb206, 1, none⟩ (.slice A205_1 ((rd_T34 l0 x7_1).f1).length c205_1))).cell? _ = some _ from hx207_1)); clear hn207_0; clear hn207_1; replace p207 := eq_true p207; replace q207 := eq_true q207) | (go_at_call 28; (with_reducible refine (attrs_Same.calls k1 _ _ ((rd_T34 l0 (ji9)).f1) _ _ ((rd_T34 l0 x7_1).f1) true _ ?side1 ?side2 ?side3 ?side4 A12.out).mono ?_); (case side1 => exact Kd.C_below HR207_1.out (by repeat (first | (with_reducible first | exact HB.out | apply below_alloc | apply pw_below_drewN | apply below_drew1 | refine below_set ?_ GE206.out) | exact HB.out))); (case side2 => exact HC207_1.out); (case side3 => exact Kd.C_below HR205_1.out (by repeat (first | (with_reducible first | exact HB.out | apply below_alloc | apply pw_below_drewN | apply below_drew1 | refine below_set ?_ GE206.out) | exact HB.out))); (case side4 => exact HC205_1.out); rintro e w' ⟨rfl, ⟨nd, rfl⟩⟩; (try first | exact ⟨rfl, _, World.drewN_drewN _ _ _⟩ | exact ⟨rfl, _, Eq.trans (World.drewN_drewN _ _ _) (congrArg (World.drewN _) (Nat.add_assoc _ _ _))⟩)))
                      repeat (go_quiet (first | ((with_reducible refine gate_dst (N := 4) rfl ?_); refine box_event ?hg (N := 4) ?hd (cs := #[.int .i64 0, .slice none 0 0]) (t := 34) ?hr ?_; (case hd => rfl); (case hg => rfl); (case hr => first | (go_simp; done) | (go_simp; rfl)); intro gb206 hg w14 hbox hb; have n0_ := Aside0.mk (below_step (by repeat (first | (with_reducible first | exact HB.out | apply below_alloc | apply pw_below_drewN | apply below_drew1) | exact HB.out | exact Below.refl _ _)) hb); have n1_ := Aside0.mk (hbox); have n2_ := Aside0.mk ((by rw [hg]; exact (below_size (by repeat (first | (with_reducible first | exact HB.out | apply below_alloc | apply pw_below_drewN | apply below_drew1) | exact HB.out | exact Below.refl _ _))) : w.heap.size ≤ gb206)); have n3_ := Aside0.mk ((by rw [hg]; exact (below_size (by repeat (first | (with_reducible first | exact HB.out | apply below_alloc | apply pw_below_drewN | apply below_drew1) | exact HB.out | exact Below.refl _ _))) : w.heap.size ≤ gb206)); clear HB; have HB := n0_; have BK206 := n1_; have GW206 := n2_; have GE206 := n3_; clear n0_ n1_ n2_ n3_; clear hb hbox hg; have hcz15_0 : w14.cell? ⟨gb206, 0, none⟩ = some (.int .i64 0) := (blk_cell BK206.out 0).trans rfl; have hcz15_1 : w14.cell? ⟨gb206, 1, none⟩ = some (.slice none 0 0) := (blk_cell BK206.out 1).trans rfl; have hfz15_0 := blk_frozen BK206.out 0; have hfz15_1 := blk_frozen BK206.out 1; have p207 : 0 ≤ ((ji9) : Int) := of_decide_eq_true (by first | (with_reducible assumption) | assumption); have q207 : (ji9) < (l0.length : Int) := of_decide_eq_true (by first | (with_reducible assumption) | assumption); obtain ⟨ad207, A207_1, c207_1, e207, hx207_0, hx207_1, hl207_1, hi207_1⟩ := at_T34 HR0.out (ji9) p207 q207; obtain rfl : ad205 = ad207 := (by injection e207); have hn207_0 : ad205.block ≠ gb206 := Nat.ne_of_lt (Nat.lt_of_lt_of_le (by have := World.block_lt_of_cell? _ _ hx207_0; first | rwa [add_block] at this | exact this) GW206.out); have hn207_1 : ad205.block ≠ gb206 := Nat.ne_of_lt (Nat.lt_of_lt_of_le (by have := World.block_lt_of_cell? _ _ hx207_0; first | rwa [add_block] at this | exact this) GW206.out); replace hx207_0 := (HB.out.cell (World.block_lt_of_cell? w _ hx207_0)).trans hx207_0; replace hx207_1 := (HB.out.cell (World.block_lt_of_cell? w _ hx207_1)).trans hx207_1; have HR207_1 := Aside0.mk hi207_1; have HC207_1 := Aside0.mk hl207_1; clear hi207_1 hl207_1; replace hx207_0 := (cell_far (p := ⟨gb206, 0, none⟩) (by first | (rw [add_block]; exact hn207_0) | (show (Addr.add _ _).block ≠ _; rw [add_block]; exact hn207_0) | exact hn207_0) (.int .i64 ((rd_T34 l0 x7_1).f0))).trans hx207_0; replace hx207_1 := (cell_far (p := ⟨gb206, 0, none⟩) (by first | (rw [add_block]; exact hn207_0) | (show (Addr.add _ _).block ≠ _; rw [add_block]; exact hn207_0) | exact hn207_0) (.int .i64 ((rd_T34 l0 x7_1).f0))).trans hx207_1; replace hx207_0 := (cell_far (p := ⟨gb206, 1, none⟩) (by first | (rw [add_block]; exact hn207_1) | (show (Addr.add _ _).block ≠ _; rw [add_block]; exact hn207_1) | exact hn207_1) (.slice A205_1 ((rd_T34 l0 x7_1).f1).length c205_1)).trans hx207_0; replace hx207_1 := (cell_far (p := ⟨gb206, 1, none⟩) (by first | (rw [add_block]; exact hn207_1) | (show (Addr.add _ _).block ≠ _; rw [add_block]; exact hn207_1) | exact hn207_1) (.slice A205_1 ((rd_T34 l0 x7_1).f1).length c205_1)).trans hx207_1; (try have hy207_0 := fun (n_ : Nat) => (show ((((w14.drewN n_).setCell ⟨gb206, 0, none⟩ (.int .i64 ((rd_T34 l0 x7_1).f0))).setCell ⟨gb206, 1, none⟩ (.slice A205_1 ((rd_T34 l0 x7_1).f1).length c205_1))).cell? _ = some _ from hx207_0)); (try have hy207_1 := fun (n_ : Nat) => (show ((((w14.drewN n_).setCell ⟨gb206, 0, none⟩ (.int .i64 ((rd_T34 l0 x7_1).f0))).setCell ⟨gb206, 1, none⟩ (.slice A205_1 ((rd_T34 l0 x7_1).f1).length c205_1))).cell? _ = some _ from hx207_1)); clear hn207_0; clear hn207_1; replace p207 := eq_true p207; replace q207 := eq_true q207) | (go_at_call 28; (with_reducible refine (attrs_Same.calls k1 _ _ ((rd_T34 l0 (ji9)).f1) _ _ ((rd_T34 l0 x7_1).f1) true _ ?side1 ?side2 ?side3 ?side4 A12.out).mono ?_); (case side1 => exact Kd.C_below HR207_1.out (by repeat (first | (with_reducible first | exact HB.out | apply below_alloc | apply pw_below_drewN | apply below_drew1 | refine below_set ?_ GE206.out) | exact HB.out))); (case side2 => exact HC207_1.out); (case side3 => exact Kd.C_below HR205_1.out (by repeat (first | (with_reducible first | exact HB.out | apply below_alloc | apply pw_below_drewN | apply below_drew1 | refine below_set ?_ GE206.out) | exact HB.out))); (case side4 => exact HC205_1.out); rintro e w' ⟨rfl, ⟨nd, rfl⟩⟩; (try first | exact ⟨rfl, _, World.drewN_drewN _ _ _⟩ | exact ⟨rfl, _, Eq.trans (World.drewN_drewN _ _ _) (congrArg (World.drewN _) (Nat.add_assoc _ _ _))⟩))); try go_wp2_with (first | ((with_reducible refine gate_dst (N := 4) rfl ?_); refine box_event ?hg (N := 4) ?hd (cs := #[.int .i64 0, .slice none 0 0]) (t := 34) ?hr ?_; (case hd => rfl); (case hg => rfl); (case hr => first | (go_simp; done) | (go_simp; rfl)); intro gb206 hg w14 hbox hb; have n0_ := Aside0.mk (below_step (by repeat (first | (with_reducible first | exact HB.out | apply below_alloc | apply pw_below_drewN | apply below_drew1) | exact HB.out | exact Below.refl _ _)) hb); have n1_ := Aside0.mk (hbox); have n2_ := Aside0.mk ((by rw [hg]; exact (below_size (by repeat (first | (with_reducible first | exact HB.out | apply below_alloc | apply pw_below_drewN | apply below_drew1) | exact HB.out | exact Below.refl _ _))) : w.heap.size ≤ gb206)); have n3_ := Aside0.mk ((by rw [hg]; exact (below_size (by repeat (first | (with_reducible first | exact HB.out | apply below_alloc | apply pw_below_drewN | apply below_drew1) | exact HB.out | exact Below.refl _ _))) : w.heap.size ≤ gb206)); clear HB; have HB := n0_; have BK206 := n1_; have GW206 := n2_; have GE206 := n3_; clear n0_ n1_ n2_ n3_; clear hb hbox hg; have hcz15_0 : w14.cell? ⟨gb206, 0, none⟩ = some (.int .i64 0) := (blk_cell BK206.out 0).trans rfl; have hcz15_1 : w14.cell? ⟨gb206, 1, none⟩ = some (.slice none 0 0) := (blk_cell BK206.out 1).trans rfl; have hfz15_0 := blk_frozen BK206.out 0; have hfz15_1 := blk_frozen BK206.out 1; have p207 : 0 ≤ ((ji9) : Int) := of_decide_eq_true (by first | (with_reducible assumption) | assumption); have q207 : (ji9) < (l0.length : Int) := of_decide_eq_true (by first | (with_reducible assumption) | assumption); obtain ⟨ad207, A207_1, c207_1, e207, hx207_0, hx207_1, hl207_1, hi207_1⟩ := at_T34 HR0.out (ji9) p207 q207; obtain rfl : ad205 = ad207 := (by injection e207); have hn207_0 : ad205.block ≠ gb206 := Nat.ne_of_lt (Nat.lt_of_lt_of_le (by have := World.block_lt_of_cell? _ _ hx207_0; first | rwa [add_block] at this | exact this) GW206.out); have hn207_1 : ad205.block ≠ gb206 := Nat.ne_of_lt (Nat.lt_of_lt_of_le (by have := World.block_lt_of_cell? _ _ hx207_0; first | rwa [add_block] at this | exact this) GW206.out); replace hx207_0 := (HB.out.cell (World.block_lt_of_cell? w _ hx207_0)).trans hx207_0; replace hx207_1 := (HB.out.cell (World.block_lt_of_cell? w _ hx207_1)).trans hx207_1; have HR207_1 := Aside0.mk hi207_1; have HC207_1 := Aside0.mk hl207_1; clear hi207_1 hl207_1; replace hx207_0 := (cell_far (p := ⟨gb206, 0, none⟩) (by first | (rw [add_block]; exact hn207_0) | (show (Addr.add _ _).block ≠ _; rw [add_block]; exact hn207_0) | exact hn207_0) (.int .i64 ((rd_T34 l0 x7_1).f0))).trans hx207_0; replace hx207_1 := (cell_far (p := ⟨gb206, 0, none⟩) (by first | (rw [add_block]; exact hn207_0) | (show (Addr.add _ _).block ≠ _; rw [add_block]; exact hn207_0) | exact hn207_0) (.int .i64 ((rd_T34 l0 x7_1).f0))).trans hx207_1; replace hx207_0 := (cell_far (p := ⟨gb206, 1, none⟩) (by first | (rw [add_block]; exact hn207_1) | (show (Addr.add _ _).block ≠ _; rw [add_block]; exact hn207_1) | exact hn207_1) (.slice A205_1 ((rd_T34 l0 x7_1).f1).length c205_1)).trans hx207_0; replace hx207_1 := (cell_far (p := ⟨gb206, 1, none⟩) (by first | (rw [add_block]; exact hn207_1) | (show (Addr.add _ _).block ≠ _; rw [add_block]; exact hn207_1) | exact hn207_1) (.slice A205_1 ((rd_T34 l0 x7_1).f1).length c205_1)).trans hx207_1; (try have hy207_0 := fun (n_ : Nat) => (show ((((w14.drewN n_).setCell ⟨gb206, 0, none⟩ (.int .i64 ((rd_T34 l0 x7_1).f0))).setCell ⟨gb206, 1, none⟩ (.slice A205_1 ((rd_T34 l0 x7_1).f1).length c205_1))).cell? _ = some _ from hx207_0)); (try have hy207_1 := fun (n_ : Nat) => (show ((((w14.drewN n_).setCell ⟨gb206, 0, none⟩ (.int .i64 ((rd_T34 l0 x7_1).f0))).setCell ⟨gb206, 1, none⟩ (.slice A205_1 ((rd_T34 l0 x7_1).f1).length c205_1))).cell? _ = some _ from hx207_1)); clear hn207_0; clear hn207_1; replace p207 := eq_true p207; replace q207 := eq_true q207) | (go_at_call 28; (with_reducible refine (attrs_Same.calls k1 _ _ ((rd_T34 l0 (ji9)).f1) _ _ ((rd_T34 l0 x7_1).f1) true _ ?side1 ?side2 ?side3 ?side4 A12.out).mono ?_); (case side1 => exact Kd.C_below HR207_1.out (by repeat (first | (with_reducible first | exact HB.out | apply below_alloc | apply pw_below_drewN | apply below_drew1 | refine below_set ?_ GE206.out) | exact HB.out))); (case side2 => exact HC207_1.out); (case side3 => exact Kd.C_below HR205_1.out (by repeat (first | (with_reducible first | exact HB.out | apply below_alloc | apply pw_below_drewN | apply below_drew1 | refine below_set ?_ GE206.out) | exact HB.out))); (case side4 => exact HC205_1.out); rintro e w' ⟨rfl, ⟨nd, rfl⟩⟩; (try first | exact ⟨rfl, _, World.drewN_drewN _ _ _⟩ | exact ⟨rfl, _, Eq.trans (World.drewN_drewN _ _ _) (congrArg (World.drewN _) (Nat.add_assoc _ _ _))⟩))))
                      go_ret
                      exact ⟨by first | rfl | (simp [errW_none, errW_some] <;> rfl) | (simp only [← hji9]; first | rfl | (simp [errW_none, errW_some] <;> rfl)) | (simp [*, errW_none, errW_some] <;> rfl), by repeat (first | (with_reducible first | exact HB.out | apply below_alloc | apply pw_below_drewN | apply below_drew1 | refine below_set ?_ GE206.out) | exact HB.out)⟩
                    · replace c13 := Bool.eq_false_iff.mpr c13
                      subst c13
                      have H1 : (blocks_Proper.l0 k1 l0 l0 (l0.length : Int) (wrap64 (x7_1 + 1))) = some r := by rw [if_neg (show ¬ (false = true) by decide)] at H; exact H
                      clear H
                      have H := H1
                      clear H1
                      have H' := Aside0.mk H
                      clear H
                      have p205 : 0 ≤ (x7_1 : Int) := of_decide_eq_true (by first | (with_reducible assumption) | assumption)
                      have q205 : x7_1 < (l0.length : Int) := of_decide_eq_true (by first | (with_reducible assumption) | assumption)
                      obtain ⟨ad205, A205_1, c205_1, e205, hx205_0, hx205_1, hl205_1, hi205_1⟩ := at_T34 HR0.out x7_1 p205 q205
                      cases e205
                      replace hx205_0 := (HB.out.cell (World.block_lt_of_cell? w _ hx205_0)).trans hx205_0
                      replace hx205_1 := (HB.out.cell (World.block_lt_of_cell? w _ hx205_1)).trans hx205_1
                      have HR205_1 := Aside0.mk hi205_1
                      have HC205_1 := Aside0.mk hl205_1
                      clear hi205_1 hl205_1
                      replace p205 := eq_true p205
                      replace q205 := eq_true q205
                      go_wp2_with (first | ((with_reducible refine gate_dst (N := 4) rfl ?_); refine box_event ?hg (N := 4) ?hd (cs := #[.int .i64 0, .slice none 0 0]) (t := 34) ?hr ?_; (case hd => rfl); (case hg => rfl); (case hr => first | (go_simp; done) | (go_simp; rfl)); intro gb206 hg w16 hbox hb; have n0_ := Aside0.mk (below_step (by repeat (first | (with_reducible first | exact HB.out | apply below_alloc | apply pw_below_drewN | apply below_drew1) | exact HB.out | exact Below.refl _ _)) hb); have n1_ := Aside0.mk (hbox); have n2_ := Aside0.mk ((by rw [hg]; exact (below_size (by repeat (first | (with_reducible first | exact HB.out | apply below_alloc | apply pw_below_drewN | apply below_drew1) | exact HB.out | exact Below.refl _ _))) : w.heap.size ≤ gb206)); have n3_ := Aside0.mk ((by rw [hg]; exact (below_size (by repeat (first | (with_reducible first | exact HB.out | apply below_alloc | apply pw_below_drewN | apply below_drew1) | exact HB.out | exact Below.refl _ _))) : w.heap.size ≤ gb206)); clear HB; have HB := n0_; have BK206 := n1_; have GW206 := n2_; have GE206 := n3_; clear n0_ n1_ n2_ n3_; clear hb hbox hg; have hcz17_0 : w16.cell? ⟨gb206, 0, none⟩ = some (.int .i64 0) := (blk_cell BK206.out 0).trans rfl; have hcz17_1 : w16.cell? ⟨gb206, 1, none⟩ = some (.slice none 0 0) := (blk_cell BK206.out 1).trans rfl; have hfz17_0 := blk_frozen BK206.out 0; have hfz17_1 := blk_frozen BK206.out 1; have p207 : 0 ≤ ((ji9) : Int) := of_decide_eq_true (by first | (with_reducible assumption) | assumption); have q207 : (ji9) < (l0.length : Int) := of_decide_eq_true (by first | (with_reducible assumption) | assumption); obtain ⟨ad207, A207_1, c207_1, e207, hx207_0, hx207_1, hl207_1, hi207_1⟩ := at_T34 HR0.out (ji9) p207 q207; obtain rfl : ad205 = ad207 := (by injection e207); have hn207_0 : ad205.block ≠ gb206 := Nat.ne_of_lt (Nat.lt_of_lt_of_le (by have := World.block_lt_of_cell? _ _ hx207_0; first | rwa [add_block] at this | exact this) GW206.out); have hn207_1 : ad205.block ≠ gb206 := Nat.ne_of_lt (Nat.lt_of_lt_of_le (by have := World.block_lt_of_cell? _ _ hx207_0; first | rwa [add_block] at this | exact this) GW206.out); replace hx207_0 := (HB.out.cell (World.block_lt_of_cell? w _ hx207_0)).trans hx207_0; replace hx207_1 := (HB.out.cell (World.block_lt_of_cell? w _ hx207_1)).trans hx207_1; have HR207_1 := Aside0.mk hi207_1; have HC207_1 := Aside0.mk hl207_1; clear hi207_1 hl207_1; replace hx207_0 := (cell_far (p := ⟨gb206, 0, none⟩) (by first | (rw [add_block]; exact hn207_0) | (show (Addr.add _ _).block ≠ _; rw [add_block]; exact hn207_0) | exact hn207_0) (.int .i64 ((rd_T34 l0 x7_1).f0))).trans hx207_0; replace hx207_1 := (cell_far (p := ⟨gb206, 0, none⟩) (by first | (rw [add_block]; exact hn207_0) | (show (Addr.add _ _).block ≠ _; rw [add_block]; exact hn207_0) | exact hn207_0) (.int .i64 ((rd_T34 l0 x7_1).f0))).trans hx207_1; replace hx207_0 := (cell_far (p := ⟨gb206, 1, none⟩) (by first | (rw [add_block]; exact hn207_1) | (show (Addr.add _ _).block ≠ _; rw [add_block]; exact hn207_1) | exact hn207_1) (.slice A205_1 ((rd_T34 l0 x7_1).f1).length c205_1)).trans hx207_0; replace hx207_1 := (cell_far (p := ⟨gb206, 1, none⟩) (by first | (rw [add_block]; exact hn207_1) | (show (Addr.add _ _).block ≠ _; rw [add_block]; exact hn207_1) | exact hn207_1) (.slice A205_1 ((rd_T34 l0 x7_1).f1).length c205_1)).trans hx207_1; (try have hy207_0 := fun (n_ : Nat) => (show ((((w16.drewN n_).setCell ⟨gb206, 0, none⟩ (.int .i64 ((rd_T34 l0 x7_1).f0))).setCell ⟨gb206, 1, none⟩ (.slice A205_1 ((rd_T34 l0 x7_1).f1).length c205_1))).cell? _ = some _ from hx207_0)); (try have hy207_1 := fun (n_ : Nat) => (show ((((w16.drewN n_).setCell ⟨gb206, 0, none⟩ (.int .i64 ((rd_T34 l0 x7_1).f0))).setCell ⟨gb206, 1, none⟩ (.slice A205_1 ((rd_T34 l0 x7_1).f1).length c205_1))).cell? _ = some _ from hx207_1)); clear hn207_0; clear hn207_1; replace p207 := eq_true p207; replace q207 := eq_true q207) | (go_at_call 28; (with_reducible refine (attrs_Same.calls k1 _ _ ((rd_T34 l0 (ji9)).f1) _ _ ((rd_T34 l0 x7_1).f1) false _ ?side1 ?side2 ?side3 ?side4 A12.out).mono ?_); (case side1 => exact Kd.C_below HR207_1.out (by repeat (first | (with_reducible first | exact HB.out | apply below_alloc | apply pw_below_drewN | apply below_drew1 | refine below_set ?_ GE206.out) | exact HB.out))); (case side2 => exact HC207_1.out); (case side3 => exact Kd.C_below HR205_1.out (by repeat (first | (with_reducible first | exact HB.out | apply below_alloc | apply pw_below_drewN | apply below_drew1 | refine below_set ?_ GE206.out) | exact HB.out))); (case side4 => exact HC205_1.out); rintro e w' ⟨rfl, ⟨nd, rfl⟩⟩; (try first | exact ⟨rfl, _, World.drewN_drewN _ _ _⟩ | exact ⟨rfl, _, Eq.trans (World.drewN_drewN _ _ _) (congrArg (World.drewN _) (Nat.add_assoc _ _ _))⟩)))
                      repeat (go_quiet (first | ((with_reducible refine gate_dst (N := 4) rfl ?_); refine box_event ?hg (N := 4) ?hd (cs := #[.int .i64 0, .slice none 0 0]) (t := 34) ?hr ?_; (case hd => rfl); (case hg => rfl); (case hr => first | (go_simp; done) | (go_simp; rfl)); intro gb206 hg w16 hbox hb; have n0_ := Aside0.mk (below_step (by repeat (first | (with_reducible first | exact HB.out | apply below_alloc | apply pw_below_drewN | apply below_drew1) | exact HB.out | exact Below.refl _ _)) hb); have n1_ := Aside0.mk (hbox); have n2_ := Aside0.mk ((by rw [hg]; exact (below_size (by repeat (first | (with_reducible first | exact HB.out | apply below_alloc | apply pw_below_drewN | apply below_drew1) | exact HB.out | exact Below.refl _ _))) : w.heap.size ≤ gb206)); have n3_ := Aside0.mk ((by rw [hg]; exact (below_size (by repeat (first | (with_reducible first | exact HB.out | apply below_alloc | apply pw_below_drewN | apply below_drew1) | exact HB.out | exact Below.refl _ _))) : w.heap.size ≤ gb206)); clear HB; have HB := n0_; have BK206 := n1_; have GW206 := n2_; have GE206 := n3_; clear n0_ n1_ n2_ n3_; clear hb hbox hg; have hcz17_0 : w16.cell? ⟨gb206, 0, none⟩ = some (.int .i64 0) := (blk_cell BK206.out 0).trans rfl; have hcz17_1 : w16.cell? ⟨gb206, 1, none⟩ = some (.slice none 0 0) := (blk_cell BK206.out 1).trans rfl; have hfz17_0 := blk_frozen BK206.out 0; have hfz17_1 := blk_frozen BK206.out 1; have p207 : 0 ≤ ((ji9) : Int) := of_decide_eq_true (by first | (with_reducible assumption) | assumption); have q207 : (ji9) < (l0.length : Int) := of_decide_eq_true (by first | (with_reducible assumption) | assumption); obtain ⟨ad207, A207_1, c207_1, e207, hx207_0, hx207_1, hl207_1, hi207_1⟩ := at_T34 HR0.out (ji9) p207 q207; obtain rfl : ad205 = ad207 := (by injection e207); have hn207_0 : ad205.block ≠ gb206 := Nat.ne_of_lt (Nat.lt_of_lt_of_le (by have := World.block_lt_of_cell? _ _ hx207_0; first | rwa [add_block] at this | exact this) GW206.out); have hn207_1 : ad205.block ≠ gb206 := Nat.ne_of_lt (Nat.lt_of_lt_of_le (by have := World.block_lt_of_cell? _ _ hx207_0; first | rwa [add_block] at this | exact this) GW206.out); replace hx207_0 := (HB.out.cell (World.block_lt_of_cell? w _ hx207_0)).trans hx207_0; replace hx207_1 := (HB.out.cell (World.block_lt_of_cell? w _ hx207_1)).trans hx207_1; have HR207_1 := Aside0.mk hi207_1; have HC207_1 := Aside0.mk hl207_1; clear hi207_1 hl207_1; replace hx207_0 := (cell_far (p := ⟨gb206, 0, none⟩) (by first | (rw [add_block]; exact hn207_0) | (show (Addr.add _ _).block ≠ _; rw [add_block]; exact hn207_0) | exact hn207_0) (.int .i64 ((rd_T34 l0 x7_1).f0))).trans hx207_0; replace hx207_1 := (cell_far (p := ⟨gb206, 0, none⟩) (by first | (rw [add_block]; exact hn207_0) | (show (Addr.add _ _).block ≠ _; rw [add_block]; exact hn207_0) | exact hn207_0) (.int .i64 ((rd_T34 l0 x7_1).f0))).trans hx207_1; replace hx207_0 := (cell_far (p := ⟨gb206, 1, none⟩) (by first | (rw [add_block]; exact hn207_1) | (show (Addr.add _ _).block ≠ _; rw [add_block]; exact hn207_1) | exact hn207_1) (.slice A205_1 ((rd_T34 l0 x7_1).f1).length c205_1)).trans hx207_0; replace hx207_1 := (cell_far (p := ⟨gb206, 1, none⟩) (by first | (rw [add_block]; exact hn207_1) | (show (Addr.add _ _).block ≠ _; rw [add_block]; exact hn207_1) | exact hn207_1) (.slice A205_1 ((rd_T34 l0 x7_1).f1).length c205_1)).trans hx207_1; (try have hy207_0 := fun (n_ : Nat) => (show ((((w16.drewN n_).setCell ⟨gb206, 0, none⟩ (.int .i64 ((rd_T34 l0 x7_1).f0))).setCell ⟨gb206, 1, none⟩ (.slice A205_1 ((rd_T34 l0 x7_1).f1).length c205_1))).cell? _ = some _ from hx207_0)); (try have hy207_1 := fun (n_ : Nat) => (show ((((w16.drewN n_).setCell ⟨gb206, 0, none⟩ (.int .i64 ((rd_T34 l0 x7_1).f0))).setCell ⟨gb206, 1, none⟩ (.slice A205_1 ((rd_T34 l0 x7_1).f1).length c205_1))).cell? _ = some _ from hx207_1)); clear hn207_0; clear hn207_1; replace p207 := eq_true p207; replace q207 := eq_true q207) | (go_at_call 28; (with_reducible refine (attrs_Same.calls k1 _ _ ((rd_T34 l0 (ji9)).f1) _ _ ((rd_T34 l0 x7_1).f1) false _ ?side1 ?side2 ?side3 ?side4 A12.out).mono ?_); (case side1 => exact Kd.C_below HR207_1.out (by repeat (first | (with_reducible first | exact HB.out | apply below_alloc | apply pw_below_drewN | apply below_drew1 | refine below_set ?_ GE206.out) | exact HB.out))); (case side2 => exact HC207_1.out); (case side3 => exact Kd.C_below HR205_1.out (by repeat (first | (with_reducible first | exact HB.out | apply below_alloc | apply pw_below_drewN | apply below_drew1 | refine below_set ?_ GE206.out) | exact HB.out))); (case side4 => exact HC205_1.out); rintro e w' ⟨rfl, ⟨nd, rfl⟩⟩; (try first | exact ⟨rfl, _, World.drewN_drewN _ _ _⟩ | exact ⟨rfl, _, Eq.trans (World.drewN_drewN _ _ _) (congrArg (World.drewN _) (Nat.add_assoc _ _ _))⟩))); try go_wp2_with (first | ((with_reducible refine gate_dst (N := 4) rfl ?_); refine box_event ?hg (N := 4) ?hd (cs := #[.int .i64 0, .slice none 0 0]) (t := 34) ?hr ?_; (case hd => rfl); (case hg => rfl); (case hr => first | (go_simp; done) | (go_simp; rfl)); intro gb206 hg w16 hbox hb; have n0_ := Aside0.mk (below_step (by repeat (first | (with_reducible first | exact HB.out | apply below_alloc | apply pw_below_drewN | apply below_drew1) | exact HB.out | exact Below.refl _ _)) hb); have n1_ := Aside0.mk (hbox); have n2_ := Aside0.mk ((by rw [hg]; exact (below_size (by repeat (first | (with_reducible first | exact HB.out | apply below_alloc | apply pw_below_drewN | apply below_drew1) | exact HB.out | exact Below.refl _ _))) : w.heap.size ≤ gb206)); have n3_ := Aside0.mk ((by rw [hg]; exact (below_size (by repeat (first | (with_reducible first | exact HB.out | apply below_alloc | apply pw_below_drewN | apply below_drew1) | exact HB.out | exact Below.refl _ _))) : w.heap.size ≤ gb206)); clear HB; have HB := n0_; have BK206 := n1_; have GW206 := n2_; have GE206 := n3_; clear n0_ n1_ n2_ n3_; clear hb hbox hg; have hcz17_0 : w16.cell? ⟨gb206, 0, none⟩ = some (.int .i64 0) := (blk_cell BK206.out 0).trans rfl; have hcz17_1 : w16.cell? ⟨gb206, 1, none⟩ = some (.slice none 0 0) := (blk_cell BK206.out 1).trans rfl; have hfz17_0 := blk_frozen BK206.out 0; have hfz17_1 := blk_frozen BK206.out 1; have p207 : 0 ≤ ((ji9) : Int) := of_decide_eq_true (by first | (with_reducible assumption) | assumption); have q207 : (ji9) < (l0.length : Int) := of_decide_eq_true (by first | (with_reducible assumption) | assumption); obtain ⟨ad207, A207_1, c207_1, e207, hx207_0, hx207_1, hl207_1, hi207_1⟩ := at_T34 HR0.out (ji9) p207 q207; obtain rfl : ad205 = ad207 := (by injection e207); have hn207_0 : ad205.block ≠ gb206 := Nat.ne_of_lt (Nat.lt_of_lt_of_le (by have := World.block_lt_of_cell? _ _ hx207_0; first | rwa [add_block] at this | exact this) GW206.out); have hn207_1 : ad205.block ≠ gb206 := Nat.ne_of_lt (Nat.lt_of_lt_of_le (by have := World.block_lt_of_cell? _ _ hx207_0; first | rwa [add_block] at this | exact this) GW206.out); replace hx207_0 := (HB.out.cell (World.block_lt_of_cell? w _ hx207_0)).trans hx207_0; replace hx207_1 := (HB.out.cell (World.block_lt_of_cell? w _ hx207_1)).trans hx207_1; have HR207_1 := Aside0.mk hi207_1; have HC207_1 := Aside0.mk hl207_1; clear hi207_1 hl207_1; replace hx207_0 := (cell_far (p := ⟨gb206, 0, none⟩) (by first | (rw [add_block]; exact hn207_0) | (show (Addr.add _ _).block ≠ _; rw [add_block]; exact hn207_0) | exact hn207_0) (.int .i64 ((rd_T34 l0 x7_1).f0))).trans hx207_0; replace hx207_1 := (cell_far (p := ⟨gb206, 0, none⟩) (by first | (rw [add_block]; exact hn207_0) | (show (Addr.add _ _).block ≠ _; rw [add_block]; exact hn207_0) | exact hn207_0) (.int .i64 ((rd_T34 l0 x7_1).f0))).trans hx207_1; replace hx207_0 := (cell_far (p := ⟨gb206, 1, none⟩) (by first | (rw [add_block]; exact hn207_1) | (show (Addr.add _ _).block ≠ _; rw [add_block]; exact hn207_1) | exact hn207_1) (.slice A205_1 ((rd_T34 l0 x7_1).f1).length c205_1)).trans hx207_0; replace hx207_1 := (cell_far (p := ⟨gb206, 1, none⟩) (by first | (rw [add_block]; exact hn207_1) | (show (Addr.add _ _).block ≠ _; rw [add_block]; exact hn207_1) | exact hn207_1) (.slice A205_1 ((rd_T34 l0 x7_1).f1).length c205_1)).trans hx207_1; (try have hy207_0 := fun (n_ : Nat) => (show ((((w16.drewN n_).setCell ⟨gb206, 0, none⟩ (.int .i64 ((rd_T34 l0 x7_1).f0))).setCell ⟨gb206, 1, none⟩ (.slice A205_1 ((rd_T34 l0 x7_1).f1).length c205_1))).cell? _ = some _ from hx207_0)); (try have hy207_1 := fun (n_ : Nat) => (show ((((w16.drewN n_).setCell ⟨gb206, 0, none⟩ (.int .i64 ((rd_T34 l0 x7_1).f0))).setCell ⟨gb206, 1, none⟩ (.slice A205_1 ((rd_T34 l0 x7_1).f1).length c205_1))).cell? _ = some _ from hx207_1)); clear hn207_0; clear hn207_1; replace p207 := eq_true p207; replace q207 := eq_true q207) | (go_at_call 28; (with_reducible refine (attrs_Same.calls k1 _ _ ((rd_T34 l0 (ji9)).f1) _ _ ((rd_T34 l0 x7_1).f1) false _ ?side1 ?side2 ?side3 ?side4 A12.out).mono ?_); (case side1 => exact Kd.C_below HR207_1.out (by repeat (first | (with_reducible first | exact HB.out | apply below_alloc | apply pw_below_drewN | apply below_drew1 | refine below_set ?_ GE206.out) | exact HB.out))); (case side2 => exact HC207_1.out); (case side3 => exact Kd.C_below HR205_1.out (by repeat (first | (with_reducible first | exact HB.out | apply below_alloc | apply pw_below_drewN | apply below_drew1 | refine below_set ?_ GE206.out) | exact HB.out))); (case side4 => exact HC205_1.out); rintro e w' ⟨rfl, ⟨nd, rfl⟩⟩; (try first | exact ⟨rfl, _, World.drewN_drewN _ _ _⟩ | exact ⟨rfl, _, Eq.trans (World.drewN_drewN _ _ _) (congrArg (World.drewN _) (Nat.add_assoc _ _ _))⟩))))
                      go_roundg k1
                      case measure => have := HK1.out; omega
                      case rel => exact ⟨(wrap64 (x7_1 + 1)), (by first | rfl | (simp; done) | (simp [*]; done)), H', ⟨by have := HK1.out; omega⟩, ⟨by repeat (first | (with_reducible first | exact HB.out | apply below_alloc | apply pw_below_drewN | apply below_drew1 | refine below_set ?_ GE206.out) | exact HB.out)⟩⟩
                  · rw [if_neg c11] at H
                    exact absurd H (by simp)
                · rw [if_neg c10] at H
                  exact absurd H (by simp)
              · rw [if_neg c8] at H
                have c8b0 : decide (0 < x7_1) = false := decide_eq_false c8
                clear c8
                have H' := Aside0.mk H
                clear H
                have p205 : 0 ≤ (x7_1 : Int) := of_decide_eq_true (by first | (with_reducible assumption) | assumption)
                have q205 : x7_1 < (l0.length : Int) := of_decide_eq_true (by first | (with_reducible assumption) | assumption)
                obtain ⟨ad205, A205_1, c205_1, e205, hx205_0, hx205_1, hl205_1, hi205_1⟩ := at_T34 HR0.out x7_1 p205 q205
                cases e205
                replace hx205_0 := (HB.out.cell (World.block_lt_of_cell? w _ hx205_0)).trans hx205_0
                replace hx205_1 := (HB.out.cell (World.block_lt_of_cell? w _ hx205_1)).trans hx205_1
                have HR205_1 := Aside0.mk hi205_1
                have HC205_1 := Aside0.mk hl205_1
                clear hi205_1 hl205_1
                replace p205 := eq_true p205
                replace q205 := eq_true q205
                go_wp2_with (first | ((with_reducible refine gate_dst (N := 4) rfl ?_); refine box_event ?hg (N := 4) ?hd (cs := #[.int .i64 0, .slice none 0 0]) (t := 34) ?hr ?_; (case hd => rfl); (case hg => rfl); (case hr => first | (go_simp; done) | (go_simp; rfl)); intro gb206 hg w18 hbox hb; have n0_ := Aside0.mk (below_step (by repeat (first | (with_reducible first | exact HB.out | apply below_alloc | apply pw_below_drewN | apply below_drew1) | exact HB.out | exact Below.refl _ _)) hb); have n1_ := Aside0.mk (hbox); have n2_ := Aside0.mk ((by rw [hg]; exact (below_size (by repeat (first | (with_reducible first | exact HB.out | apply below_alloc | apply pw_below_drewN | apply below_drew1) | exact HB.out | exact Below.refl _ _))) : w.heap.size ≤ gb206)); have n3_ := Aside0.mk ((by rw [hg]; exact (below_size (by repeat (first | (with_reducible first | exact HB.out | apply below_alloc | apply pw_below_drewN | apply below_drew1) | exact HB.out | exact Below.refl _ _))) : w.heap.size ≤ gb206)); clear HB; have HB := n0_; have BK206 := n1_; have GW206 := n2_; have GE206 := n3_; clear n0_ n1_ n2_ n3_; clear hb hbox hg; have hcz19_0 : w18.cell? ⟨gb206, 0, none⟩ = some (.int .i64 0) := (blk_cell BK206.out 0).trans rfl; have hcz19_1 : w18.cell? ⟨gb206, 1, none⟩ = some (.slice none 0 0) := (blk_cell BK206.out 1).trans rfl; have hfz19_0 := blk_frozen BK206.out 0; have hfz19_1 := blk_frozen BK206.out 1))
                repeat (go_quiet (first | ((with_reducible refine gate_dst (N := 4) rfl ?_); refine box_event ?hg (N := 4) ?hd (cs := #[.int .i64 0, .slice none 0 0]) (t := 34) ?hr ?_; (case hd => rfl); (case hg => rfl); (case hr => first | (go_simp; done) | (go_simp; rfl)); intro gb206 hg w18 hbox hb; have n0_ := Aside0.mk (below_step (by repeat (first | (with_reducible first | exact HB.out | apply below_alloc | apply pw_below_drewN | apply below_drew1) | exact HB.out | exact Below.refl _ _)) hb); have n1_ := Aside0.mk (hbox); have n2_ := Aside0.mk ((by rw [hg]; exact (below_size (by repeat (first | (with_reducible first | exact HB.out | apply below_alloc | apply pw_below_drewN | apply below_drew1) | exact HB.out | exact Below.refl _ _))) : w.heap.size ≤ gb206)); have n3_ := Aside0.mk ((by rw [hg]; exact (below_size (by repeat (first | (with_reducible first | exact HB.out | apply below_alloc | apply pw_below_drewN | apply below_drew1) | exact HB.out | exact Below.refl _ _))) : w.heap.size ≤ gb206)); clear HB; have HB := n0_; have BK206 := n1_; have GW206 := n2_; have GE206 := n3_; clear n0_ n1_ n2_ n3_; clear hb hbox hg; have hcz19_0 : w18.cell? ⟨gb206, 0, none⟩ = some (.int .i64 0) := (blk_cell BK206.out 0).trans rfl; have hcz19_1 : w18.cell? ⟨gb206, 1, none⟩ = some (.slice none 0 0) := (blk_cell BK206.out 1).trans rfl; have hfz19_0 := blk_frozen BK206.out 0; have hfz19_1 := blk_frozen BK206.out 1)); try go_wp2_with (first | ((with_reducible refine gate_dst (N := 4) rfl ?_); refine box_event ?hg (N := 4) ?hd (cs := #[.int .i64 0, .slice none 0 0]) (t := 34) ?hr ?_; (case hd => rfl); (case hg => rfl); (case hr => first | (go_simp; done) | (go_simp; rfl)); intro gb206 hg w18 hbox hb; have n0_ := Aside0.mk (below_step (by repeat (first | (with_reducible first | exact HB.out | apply below_alloc | apply pw_below_drewN | apply below_drew1) | exact HB.out | exact Below.refl _ _)) hb); have n1_ := Aside0.mk (hbox); have n2_ := Aside0.mk ((by rw [hg]; exact (below_size (by repeat (first | (with_reducible first | exact HB.out | apply below_alloc | apply pw_below_drewN | apply below_drew1) | exact HB.out | exact Below.refl _ _))) : w.heap.size ≤ gb206)); have n3_ := Aside0.mk ((by rw [hg]; exact (below_size (by repeat (first | (with_reducible first | exact HB.out | apply below_alloc | apply pw_below_drewN | apply below_drew1) | exact HB.out | exact Below.refl _ _))) : w.heap.size ≤ gb206)); clear HB; have HB := n0_; have BK206 := n1_; have GW206 := n2_; have GE206 := n3_; clear n0_ n1_ n2_ n3_; clear hb hbox hg; have hcz19_0 : w18.cell? ⟨gb206, 0, none⟩ = some (.int .i64 0) := (blk_cell BK206.out 0).trans rfl; have hcz19_1 : w18.cell? ⟨gb206, 1, none⟩ = some (.slice none 0 0) := (blk_cell BK206.out 1).trans rfl; have hfz19_0 := blk_frozen BK206.out 0; have hfz19_1 := blk_frozen BK206.out 1)))
                go_roundg k1
                case measure => have := HK1.out; omega
                case rel => exact ⟨(wrap64 (x7_1 + 1)), (by first | rfl | (simp; done) | (simp [*]; done)), H', ⟨by have := HK1.out; omega⟩, ⟨by repeat (first | (with_reducible first | exact HB.out | apply below_alloc | apply pw_below_drewN | apply below_drew1 | refine below_set ?_ GE206.out) | exact HB.out)⟩⟩
          · rw [if_neg c4] at H
            exact absurd H (by simp)
        · rw [if_neg c3] at H
          exact absurd H (by simp)
      · rw [if_neg c2] at H
        have c2b0 : decide (x7_1 < (l0.length : Int)) = false := decide_eq_false c2
        clear c2
        obtain rfl := Option.some.inj H
        go_wp2
        repeat (go_quiet (fail); try go_wp2)
        go_ret
        exact ⟨by first | rfl | (simp [errW_none, errW_some] <;> rfl) | (simp [*, errW_none, errW_some] <;> rfl), by repeat (first | (with_reducible first | exact HB.out | apply below_alloc | apply pw_below_drewN | apply below_drew1) | exact HB.out | exact Below.refl _ _)⟩
/-! ### rubriclaw12_BlocksCells: function 5 -/
end Go.Proofs.Ytpnoeggnniagfaa.P
namespace Go.Proofs.Ytpnoeggnniagfaa.P
open Go.RowKit Go.Proofs.YtpnoeggnniagfaaW.PrintWords Go.Proofs.YtpnoeggnniagfaaW.PrintLast Go.Proofs.YtpnoeggnniagfaaW.PrintMore
set_option linter.unusedVariables false
theorem sameR_loop (a b : List S46) (hl : a.length = b.length) (hs : a.length < 2932031007402) : ∀ (k i : Nat), i ≤ a.length → a.length - i < k → rubricref05_Same.l0 k a b (i : Int) = some (decide (keyL (a.drop i) = keyL (b.drop i)))
  | 0, i, _, hk => by omega
  | k + 1, i, hi, hk => by
    unfold rubricref05_Same.l0
    by_cases h : i < a.length
    · rw [if_pos (by omega), if_pos (by omega), if_pos (by omega), rd46_get a i h, rd46_get b i (by omega)]
      have ih := sameR_loop a b hl hs k (i + 1) (by omega) (by omega)
      by_cases hd : nrm a[i] = nrm b[i]
      · rw [if_neg (by intro hc; exact (differs_iff _ _).1 (by simpa only [Bool.or_assoc] using hc) hd), wrap64_succ i (by omega), ih]
        congr 1
        rw [decide_eq_decide, keyL_drop a b i h (by omega)]
        exact ⟨fun h => ⟨hd, h⟩, fun h => h.2⟩
      · rw [if_pos (by simpa only [Bool.or_assoc] using (differs_iff _ _).2 hd)]
        congr 1
        rw [eq_comm, decide_eq_false_iff_not, keyL_drop a b i h (by omega)]
        exact fun h => hd h.1
    · rw [if_neg (by omega)]
      have e1 : a.drop i = [] := List.drop_eq_nil_of_le (by omega)
      have e2 : b.drop i = [] := List.drop_eq_nil_of_le (by omega)
      rw [e1, e2]; simp
theorem sameR_eq (k : Nat) (a b : List S46) (hs : a.length < 2932031007402) (hk : a.length < k) : rubricref05_Same.f k a b = some (decide (keyL a = keyL b)) := by
  unfold rubricref05_Same.f
  by_cases hl : a.length = b.length
  · rw [if_pos (by omega)]
    have := sameR_loop a b hl hs k 0 (by omega) (by omega)
    simp only [List.drop_zero] at this
    rw [show ((0 : Nat) : Int) = 0 from rfl] at this
    rw [this]
  · rw [if_neg (by omega)]
    have : keyL a ≠ keyL b := fun h => hl (by rw [← keyL_length a, ← keyL_length b, h])
    simp [this]
theorem addR_eq (k : Nat) (out : List S34) (n : Int) (set : List S46) (hout : out.length < 4398046511104) (hset : set.length < 2932031007402) (hk : ∀ b ∈ out, b.f1.length < k ∧ b.f1.length < 2932031007402) :
    rubricref12_Add.f k out n set = some (addP out n set) := by
  unfold rubricref12_Add.f addP
  simp only [Option.bind_some, List.length_nil, Nat.zero_add, List.nil_append]
  by_cases hn : n ≤ 0
  · rw [if_pos hn, if_pos hn]
  · rw [if_neg hn, if_neg hn, if_pos hset]
    have hw : wrap64 ((out.length : Int) - 1) = (out.length : Int) - 1 := wrap64_at _ (by omega)
    rw [hw]
    by_cases he : out = []
    · subst he
      simp
    · have hp := List.length_pos_iff.2 he
      have hgl : out.getLast? = some (out.getLast he) := List.getLast?_eq_some_getLast he
      have hrd : rd_T34 out ((out.length : Int) - 1) = out.getLast he := by
        unfold rd_T34
        rw [show ((out.length : Int) - 1).toNat = out.length - 1 by omega, List.getLast_eq_getElem]
        simp [show out.length - 1 < out.length by omega]
      rw [if_pos (by omega), if_pos (by omega), if_pos (by omega), hrd, hgl]
      have hb := hk _ (List.getLast_mem he)
      rw [sameR_eq k _ set hb.2 hb.1]
      simp only [Option.bind_some]
      by_cases hkey : keyL (out.getLast he).f1 = keyL set
      · rw [if_pos (by simpa using hkey), if_pos hkey, show ((out.length : Int) - 1).toNat = out.length - 1 by omega, set_last _ _ he]
      · rw [if_neg (by simpa using hkey), if_neg hkey, if_pos hout]
end Go.Proofs.Ytpnoeggnniagfaa.P
namespace Go.Proofs.Ytpnoeggnniagfaa.P
open Go.RowKit Go.Proofs.YtpnoeggnniagfaaW.PrintWords Go.Proofs.YtpnoeggnniagfaaW.PrintLast Go.Proofs.YtpnoeggnniagfaaW.PrintMore
set_option linter.unusedVariables false
abbrev Key := List (Int × Int × Int × Int × List UInt8)
def rep (l : List S34) : List Key := l.flatMap fun b => List.replicate b.f0.toNat (keyL b.f1)
theorem rep_append (a b : List S34) : rep (a ++ b) = rep a ++ rep b := by simp [rep]
theorem rep_one (b : S34) : rep [b] = List.replicate b.f0.toNat (keyL b.f1) := by simp [rep]
def Fits (l : List S34) : Prop := (∀ b ∈ l, 0 < b.f0) ∧ (rep l).length < 4611686018427387904
/-- proper: no two neighbours alike -/
def Apart : List S34 → Prop
  | [] => True
  | [_] => True
  | a :: b :: l => keyL a.f1 ≠ keyL b.f1 ∧ Apart (b :: l)
theorem apart_snoc (x : S34) : ∀ (l : List S34), Apart l → (∀ b, l.getLast? = some b → keyL b.f1 ≠ keyL x.f1) → Apart (l ++ [x])
  | [], _, _ => trivial
  | [a], _, h => ⟨h a rfl, trivial⟩
  | a :: b :: l, h1, h2 => ⟨h1.1, apart_snoc x (b :: l) h1.2 (fun c hc => h2 c (by rw [List.getLast?_cons_cons]; exact hc))⟩
theorem apart_last (x y : S34) (hk : keyL x.f1 = keyL y.f1) : ∀ (l : List S34), Apart (l ++ [x]) → Apart (l ++ [y])
  | [], _ => trivial
  | [a], h => ⟨by rw [← hk]; exact h.1, trivial⟩
  | a :: b :: l, h => ⟨h.1, apart_last x y hk (b :: l) h.2⟩
theorem addP_rep (out : List S34) (n : Int) (set : List S46) (hf : Fits out) (ha : Apart out) (hn : (rep out).length + n.toNat < 4611686018427387904) :
    rep (addP out n set) = rep out ++ List.replicate n.toNat (keyL set) ∧ Fits (addP out n set) ∧ Apart (addP out n set) := by
  unfold addP
  by_cases h0 : n ≤ 0
  · rw [if_pos h0, show n.toNat = 0 by omega]
    exact ⟨by simp, hf, ha⟩
  · rw [if_neg h0]
    have key : rep (out ++ [⟨n, set⟩]) = rep out ++ List.replicate n.toNat (keyL set) := by rw [rep_append, rep_one]
    have fits : Fits (out ++ [⟨n, set⟩]) := ⟨fun b hb => by
      rcases List.mem_append.1 hb with h | h
      · exact hf.1 b h
      · simp at h; subst h; show 0 < n; omega, by rw [key, List.length_append, List.length_replicate]; exact hn⟩
    split
    · rename_i b hb
      have hne : out ≠ [] := by rintro rfl; simp at hb
      have hb' : out.getLast hne = b := by rw [List.getLast?_eq_some_getLast hne] at hb; exact Option.some.inj hb
      have hsplit : out = out.dropLast ++ [b] := by rw [← hb']; exact (List.dropLast_concat_getLast hne).symm
      split
      · rename_i hk
        have hbp := hf.1 b (List.mem_of_getLast? hb)
        have hlen : (rep out).length = (rep out.dropLast).length + b.f0.toNat := by
          conv => lhs; rw [hsplit, rep_append, rep_one, List.length_append, List.length_replicate]
        have hw : wrap64 (b.f0 + n) = b.f0 + n := wrap64_at _ (by omega)
        have hr : rep (out.dropLast ++ [⟨wrap64 (b.f0 + n), b.f1⟩]) = rep out ++ List.replicate n.toNat (keyL set) := by
          rw [hw, rep_append, rep_one]
          conv => rhs; rw [hsplit, rep_append, rep_one]
          rw [List.append_assoc]
          congr 1
          show List.replicate (b.f0 + n).toNat (keyL b.f1) = _
          rw [show (b.f0 + n).toNat = b.f0.toNat + n.toNat by omega, ← List.replicate_append_replicate, hk]
        refine ⟨hr, ⟨fun c hc => ?_, by rw [hr, List.length_append, List.length_replicate]; exact hn⟩, ?_⟩
        · rcases List.mem_append.1 hc with h | h
          · exact hf.1 c (List.dropLast_subset _ h)
          · simp at h; subst h; show 0 < wrap64 (b.f0 + n); omega
        · rw [hsplit] at ha
          exact apart_last b ⟨wrap64 (b.f0 + n), b.f1⟩ rfl _ ha
      · rename_i hk
        exact ⟨key, fits, apart_snoc _ _ ha (fun c hc => by rw [hb] at hc; cases hc; exact hk)⟩
    · rename_i hb
      exact ⟨key, fits, apart_snoc _ _ ha (fun c hc => by rw [hb] at hc; cases hc)⟩
/-- atP counts the places (where nothing overflows). -/
theorem foldl_at (l : List S34) (s : Int) (h0 : 0 ≤ s) (hp : ∀ b ∈ l, 0 ≤ b.f0) (hs : s + (rep l).length < 4611686018427387904) : l.foldl (fun s b => wrap64 (s + b.f0)) s = s + (rep l).length := by
  induction l generalizing s with
  | nil => simp [rep]
  | cons b l ih =>
    have hb := hp b (by simp)
    have hl : (rep (b :: l)).length = b.f0.toNat + (rep l).length := by simp [rep]
    have hw : wrap64 (s + b.f0) = s + b.f0 := wrap64_at _ (by omega)
    rw [List.foldl_cons, hw, ih (s + b.f0) (by omega) (fun c hc => hp c (by simp [hc])) (by omega), hl]
    omega
theorem rep_take_le (l : List S34) (k : Nat) : (rep (l.take k)).length ≤ (rep l).length := by
  conv => rhs; rw [← List.take_append_drop k l, rep_append, List.length_append]
  omega
theorem atP_eq (l : List S34) (k : Nat) (hp : ∀ b ∈ l, 0 ≤ b.f0) (hs : (rep l).length < 4611686018427387904) : atP l k = (rep (l.take k)).length := by
  unfold atP
  have := rep_take_le l k
  rw [foldl_at _ 0 (by omega) (fun b hb => hp b (List.mem_of_mem_take hb)) (by omega)]
  omega
theorem rep_at (l : List S34) (k : Nat) (hk : k < l.length) : rep l = rep (l.take k) ++ (List.replicate (l[k]).f0.toNat (keyL (l[k]).f1) ++ rep (l.drop (k + 1))) := by
  conv => lhs; rw [← List.take_append_drop k l, List.drop_eq_getElem_cons hk, rep_append]
  simp only [rep, List.flatMap_cons]
/-- What At finds: the set of place i. -/
theorem at_hit (l : List S34) (hp : ∀ b ∈ l, 0 ≤ b.f0) (hs : (rep l).length < 4611686018427387904) (i : Int) :
    match (List.finRange l.length).find? (hitP l i) with
    | some x => 0 ≤ i ∧ (rep l)[i.toNat]? = some (keyL (l[x.1]'x.2).f1)
    | none => ¬ (0 ≤ i ∧ i < (rep l).length) := by
  have hhit : ∀ x : Fin l.length, hitP l i x = true ↔ ((rep (l.take x.1)).length : Int) ≤ i ∧ i < (rep (l.take x.1)).length + (l[x.1]'x.2).f0 := by
    intro x
    have hb := hp _ (List.getElem_mem x.2)
    have h1 := rep_at l x.1 x.2
    have h2 : (rep l).length = (rep (l.take x.1)).length + ((l[x.1]'x.2).f0.toNat + (rep (l.drop (x.1 + 1))).length) := by
      conv => lhs; rw [h1]
      simp
    unfold hitP
    rw [atP_eq l x.1 hp hs, wrap64_at _ (by omega)]
    simp
  split
  · rename_i x hx
    have h1 := (hhit x).1 (List.find?_some hx)
    refine ⟨by omega, ?_⟩
    rw [rep_at l x.1 x.2, List.getElem?_append_right (by omega), List.getElem?_append_left (by rw [List.length_replicate]; omega), List.getElem?_replicate, if_pos (by omega)]
  · rename_i hx
    rintro ⟨h0, h1⟩
    rw [List.find?_eq_none] at hx
    -- the first block that ends behind i
    have key : ∀ k, k ≤ l.length → ((rep (l.take k)).length : Int) ≤ i := by
      intro k
      induction k with
      | zero => intro _; simpa [rep] using h0
      | succ k ih =>
        intro hk
        have h2 := ih (by omega)
        have h3 := hx ⟨k, by omega⟩ (List.mem_finRange _)
        have h4 : (rep (l.take (k + 1))).length = (rep (l.take k)).length + (l[k]'(by omega)).f0.toNat := by
          rw [List.take_add_one, List.getElem?_eq_getElem (by omega), rep_append]
          simp [rep]
        have hb := hp _ (List.getElem_mem (show k < l.length by omega))
        rcases Int.lt_or_le i ((rep (l.take (k + 1))).length : Int) with h5 | h5
        · exact absurd ((hhit ⟨k, by omega⟩).2 ⟨h2, by dsimp only; omega⟩) h3
        · exact h5
    have := key l.length (Nat.le_refl _)
    rw [List.take_length] at this
    omega
theorem rd34_get (a : List S34) (i : Nat) (h : i < a.length) : rd_T34 a (i : Int) = a[i] := by simp [rd_T34, h]
instance decT0 : DecidableEq (List UInt8) := instDecidableEqList
instance decT1 : DecidableEq (Int × List UInt8) := instDecidableEqProd
instance decT2 : DecidableEq (Int × Int × List UInt8) := instDecidableEqProd
instance decT3 : DecidableEq (Int × Int × Int × List UInt8) := instDecidableEqProd
instance decT4 : DecidableEq (Int × Int × Int × Int × List UInt8) := instDecidableEqProd
instance decKey : DecidableEq Key := instDecidableEqList
instance decKey2 : DecidableEq (Int × Key) := instDecidableEqProd
instance decKey3 : DecidableEq (List (Int × Key)) := instDecidableEqList
def key34 (x : S34) : Int × Key := (x.f0, keyL x.f1)
theorem sameB_loop (a b : List S34) (hl : a.length = b.length) (hs : a.length < 4611686018427387000) (ha : ∀ x ∈ a, x.f1.length ≤ 30) : ∀ (k i : Nat), i ≤ a.length → a.length - i + 40 ≤ k →
    rubricref12_Same.l0 k a b (i : Int) = some (decide ((a.drop i).map key34 = (b.drop i).map key34))
  | 0, i, _, hk => by omega
  | k + 1, i, hi, hk => by
    unfold rubricref12_Same.l0
    by_cases h : i < a.length
    · have hai := ha _ (List.getElem_mem h)
      rw [if_pos (by omega), if_pos (by omega), if_pos (by omega), rd34_get a i h, rd34_get b i (by omega), wrap64_succ i (by omega), sameR_eq k _ _ (by omega) (by omega), sameB_loop a b hl hs ha k (i + 1) (by omega) (by omega)]
      simp only [Option.bind_some]
      rw [List.drop_eq_getElem_cons h, List.drop_eq_getElem_cons (show i < b.length by omega)]
      simp only [List.map_cons, List.cons.injEq, key34, Prod.mk.injEq]
      by_cases h1 : (a[i]).f0 = (b[i]).f0
      · rw [if_pos h1]
        by_cases h2 : keyL (a[i]).f1 = keyL (b[i]).f1
        · rw [if_pos (by simpa using h2)]; simp [h1, h2]
        · rw [if_neg (by simpa using h2)]; simp [h2]
      · rw [if_neg h1]; simp [h1]
    · rw [if_neg (by omega), List.drop_eq_nil_of_le (by omega), List.drop_eq_nil_of_le (by omega)]
      simp
def same34 (a b : List S34) : Bool := decide (a.map key34 = b.map key34)
theorem sameB_eq (a b : List S34) (hs : a.length < 4611686018427387000) (ha : ∀ x ∈ a, x.f1.length ≤ 30) (k : Nat) (hk : a.length + 40 ≤ k) : rubricref12_Same.f k a b = some (same34 a b) := by
  unfold rubricref12_Same.f same34
  by_cases hl : a.length = b.length
  · rw [if_pos (by omega)]
    have := sameB_loop a b hl hs ha k 0 (by omega) (by omega)
    simpa using this
  · rw [if_neg (by omega)]
    have : a.map key34 ≠ b.map key34 := fun h => hl (by simpa using congrArg List.length h)
    simp [this]
theorem apart_at : ∀ (l : List S34), Apart l → ∀ (i : Nat) (h : i + 1 < l.length), keyL (l[i]'(by omega)).f1 ≠ keyL (l[i + 1]'h).f1
  | [], _, i, h => by simp at h
  | [_], _, i, h => by simp at h
  | a :: b :: l, hp, 0, h => hp.1
  | a :: b :: l, hp, i + 1, h => apart_at (b :: l) hp.2 i (by simpa using h)
end Go.Proofs.Ytpnoeggnniagfaa.P
namespace Go.Proofs.Ytpnoeggnniagfaa.P
open Go.RowKit Go.Proofs.YtpnoeggnniagfaaW.PrintWords Go.Proofs.YtpnoeggnniagfaaW.PrintLast Go.Proofs.YtpnoeggnniagfaaW.PrintMore
set_option linter.unusedVariables false
end Go.Proofs.Ytpnoeggnniagfaa.P
namespace Go.Proofs.Ytpnoeggnniagfaa
open Go.RowKit
end Go.Proofs.Ytpnoeggnniagfaa
namespace Go.Proofs.Ytpnoeggnniagfaa.P
open Go.RowKit Go.Proofs.YtpnoeggnniagfaaW.PrintWords Go.Proofs.YtpnoeggnniagfaaW.PrintLast Go.Proofs.YtpnoeggnniagfaaW.PrintMore
attribute [local go_sem] max2_int min2_int max_two min_two max_three min_three max_four min_four   -- for this text's walks alone
set_option linter.unusedVariables false
set_option linter.unusedSimpArgs false
/-! ### rubriclaw12_tame: function 12 -/
def rubriclaw12_tame.l0 : Nat → List (S34) → Int → Int → Option (Bool)
  | 0, _, _, _ => none
  | k + 1, x0, x8, x9 => if x9 < x8 then (if 0 ≤ x9 then (if x9 < (x0.length : Int) then (if ((rd_T34 x0 x9).f0) < 0 then (some false) else (if ((rd_T34 x0 x9).f0) > 1099511627776 then (some false) else (if (((rd_T34 x0 x9).f1).length : Int) > 30 then (some false) else (rubriclaw12_tame.l0 k x0 x8 (wrap64 (x9 + 1)))))) else (none)) else (none)) else (some true)
def rubriclaw12_tame.f (k : Nat) (l0 : List (S34)) : Option (Bool) := if (l0.length : Int) > 200 then (some false) else (rubriclaw12_tame.l0 k l0 (l0.length : Int) 0)
set_option maxHeartbeats 8000000 in
set_option maxRecDepth 100000 in
theorem rubriclaw12_tame.calls (k : Nat) (A0 : Option Addr) (c0 : Nat) (l0 : List (S34)) (r : Bool) (w : World) (hr0 : Kd.C k34 w A0 l0.length l0) (hc0 : l0.length ≤ c0) (h : rubriclaw12_tame.f k l0 = some r) :
    Calls Try.prog 12 #[.slice A0 l0.length c0] w fun e w' => e = .returned (.bool r) ∧ Drawn0 w w' := by
  have HR0 := Aside0.mk hr0
  have HC0 := Aside0.mk hc0
  clear hr0 hc0
  have H : (if (l0.length : Int) > 200 then (some false) else (rubriclaw12_tame.l0 k l0 (l0.length : Int) 0)) = some r := h
  clear h
  by_cases c2 : (l0.length : Int) > 200
  · rw [if_pos c2] at H
    have c2b0 : decide (200 < (l0.length : Int)) = true := decide_eq_true c2
    have c2b1 : decide (200 < l0.length) = true := decide_eq_true (by omega)
    clear c2
    obtain rfl := Option.some.inj H
    go_enter Try.func12, Try.ntmps12
    go_wp2
    go_ret
    exact ⟨by first | rfl | (simp; done) | (simp [*]; done), by repeat (first | exact Drawn0.refl _ | apply Drawn0.step)⟩
  · rw [if_neg c2] at H
    have c2b0 : decide (200 < (l0.length : Int)) = false := decide_eq_false c2
    have c2b1 : decide (200 < l0.length) = false := decide_eq_false (by omega)
    clear c2
    have H' := Aside0.mk H
    clear H
    go_enter Try.func12, Try.ntmps12
    go_wp2
    go_loopg [9] k (fun kq v9 w' => ∃ (x9_1 : Int), v9 = .int .i64 x9_1 ∧ Aside0 (rubriclaw12_tame.l0 kq l0 (l0.length : Int) x9_1 = some r) ∧ Aside0 (kq ≤ k) ∧ Drawn0 w w')
    case atStart => exact ⟨(0), (by first | rfl | (simp; done) | (simp [*]; done)), H', ⟨Nat.le_refl _⟩, by repeat (first | exact Drawn0.refl _ | apply Drawn0.step)⟩
    case round =>
      clear H'
      try clear c1
      try clear c2
      try clear c2b0
      try clear c2b0d c2b0p
      try clear c2b0d
      try clear c2b1
      try clear c2b1d c2b1p
      try clear c2b1d
      try clear p2
      obtain ⟨x9_1, rfl, HA, HK1, ⟨m1, rfl⟩⟩ := hrel
      cases gk with
      | zero => exact absurd HA.out (by simp [rubriclaw12_tame.l0])
      | succ k1 =>
        have H := HA.out
        clear HA
        simp only [rubriclaw12_tame.l0] at H
        by_cases c3 : x9_1 < (l0.length : Int)
        · rw [if_pos c3] at H
          have c3b0 : decide (x9_1 < (l0.length : Int)) = true := decide_eq_true c3
          clear c3
          by_cases c4 : 0 ≤ x9_1
          · rw [if_pos c4] at H
            have c4b0 : decide (0 ≤ x9_1) = true := decide_eq_true c4
            clear c4
            by_cases c5 : x9_1 < (l0.length : Int)
            · rw [if_pos c5] at H
              have c5b0 : decide (x9_1 < (l0.length : Int)) = true := decide_eq_true c5
              clear c5
              by_cases c6 : ((rd_T34 l0 x9_1).f0) < 0
              · rw [if_pos c6] at H
                have c6b0 : decide (((rd_T34 l0 x9_1).f0) < 0) = true := decide_eq_true c6
                clear c6
                obtain rfl := Option.some.inj H
                have p231 : 0 ≤ (x9_1 : Int) := of_decide_eq_true (by first | (with_reducible assumption) | assumption)
                have q231 : x9_1 < (l0.length : Int) := of_decide_eq_true (by first | (with_reducible assumption) | assumption)
                obtain ⟨ad231, A231_1, c231_1, e231, hx231_0, hx231_1, hl231_1, hi231_1⟩ := at_T34 HR0.out x9_1 p231 q231
                cases e231
                have HR231_1 := Aside0.mk hi231_1
                have HC231_1 := Aside0.mk hl231_1
                clear hi231_1 hl231_1
                replace p231 := eq_true p231
                replace q231 := eq_true q231
                go_wp2
                go_ret
                exact ⟨by first | rfl | (simp; done) | (simp [*]; done), by repeat (first | exact Drawn0.refl _ | apply Drawn0.step)⟩
              · rw [if_neg c6] at H
                have c6b0 : decide (((rd_T34 l0 x9_1).f0) < 0) = false := decide_eq_false c6
                clear c6
                by_cases c7 : ((rd_T34 l0 x9_1).f0) > 1099511627776
                · rw [if_pos c7] at H
                  have c7b0 : decide (1099511627776 < ((rd_T34 l0 x9_1).f0)) = true := decide_eq_true c7
                  clear c7
                  obtain rfl := Option.some.inj H
                  have p231 : 0 ≤ (x9_1 : Int) := of_decide_eq_true (by first | (with_reducible assumption) | assumption)
                  have q231 : x9_1 < (l0.length : Int) := of_decide_eq_true (by first | (with_reducible assumption) | assumption)
                  obtain ⟨ad231, A231_1, c231_1, e231, hx231_0, hx231_1, hl231_1, hi231_1⟩ := at_T34 HR0.out x9_1 p231 q231
                  cases e231
                  have HR231_1 := Aside0.mk hi231_1
                  have HC231_1 := Aside0.mk hl231_1
                  clear hi231_1 hl231_1
                  replace p231 := eq_true p231
                  replace q231 := eq_true q231
                  have p232 : 0 ≤ (x9_1 : Int) := of_decide_eq_true (by first | (with_reducible assumption) | assumption)
                  have q232 : x9_1 < (l0.length : Int) := of_decide_eq_true (by first | (with_reducible assumption) | assumption)
                  obtain ⟨ad232, A232_1, c232_1, e232, hx232_0, hx232_1, hl232_1, hi232_1⟩ := at_T34 HR0.out x9_1 p232 q232
                  obtain rfl : ad231 = ad232 := (by injection e232)
                  have HR232_1 := Aside0.mk hi232_1
                  have HC232_1 := Aside0.mk hl232_1
                  clear hi232_1 hl232_1
                  replace p232 := eq_true p232
                  replace q232 := eq_true q232
                  have ea_ := Option.some.inj (hx231_1.symm.trans hx232_1)
                  injection ea_ with ea_ en_ ec_
                  subst ea_
                  subst ec_
                  clear en_
                  go_wp2
                  go_ret
                  exact ⟨by first | rfl | (simp; done) | (simp [*]; done), by repeat (first | exact Drawn0.refl _ | apply Drawn0.step)⟩
                · rw [if_neg c7] at H
                  have c7b0 : decide (1099511627776 < ((rd_T34 l0 x9_1).f0)) = false := decide_eq_false c7
                  clear c7
                  by_cases c8 : (((rd_T34 l0 x9_1).f1).length : Int) > 30
                  · rw [if_pos c8] at H
                    have c8b0 : decide (30 < (((rd_T34 l0 x9_1).f1).length : Int)) = true := decide_eq_true c8
                    have c8b1 : decide (30 < ((rd_T34 l0 x9_1).f1).length) = true := decide_eq_true (by omega)
                    clear c8
                    obtain rfl := Option.some.inj H
                    have p231 : 0 ≤ (x9_1 : Int) := of_decide_eq_true (by first | (with_reducible assumption) | assumption)
                    have q231 : x9_1 < (l0.length : Int) := of_decide_eq_true (by first | (with_reducible assumption) | assumption)
                    obtain ⟨ad231, A231_1, c231_1, e231, hx231_0, hx231_1, hl231_1, hi231_1⟩ := at_T34 HR0.out x9_1 p231 q231
                    cases e231
                    have HR231_1 := Aside0.mk hi231_1
                    have HC231_1 := Aside0.mk hl231_1
                    clear hi231_1 hl231_1
                    replace p231 := eq_true p231
                    replace q231 := eq_true q231
                    have p232 : 0 ≤ (x9_1 : Int) := of_decide_eq_true (by first | (with_reducible assumption) | assumption)
                    have q232 : x9_1 < (l0.length : Int) := of_decide_eq_true (by first | (with_reducible assumption) | assumption)
                    obtain ⟨ad232, A232_1, c232_1, e232, hx232_0, hx232_1, hl232_1, hi232_1⟩ := at_T34 HR0.out x9_1 p232 q232
                    obtain rfl : ad231 = ad232 := (by injection e232)
                    have HR232_1 := Aside0.mk hi232_1
                    have HC232_1 := Aside0.mk hl232_1
                    clear hi232_1 hl232_1
                    replace p232 := eq_true p232
                    replace q232 := eq_true q232
                    have ea_ := Option.some.inj (hx231_1.symm.trans hx232_1)
                    injection ea_ with ea_ en_ ec_
                    subst ea_
                    subst ec_
                    clear en_
                    have p233 : 0 ≤ (x9_1 : Int) := of_decide_eq_true (by first | (with_reducible assumption) | assumption)
                    have q233 : x9_1 < (l0.length : Int) := of_decide_eq_true (by first | (with_reducible assumption) | assumption)
                    obtain ⟨ad233, A233_1, c233_1, e233, hx233_0, hx233_1, hl233_1, hi233_1⟩ := at_T34 HR0.out x9_1 p233 q233
                    obtain rfl : ad231 = ad233 := (by injection e233)
                    have HR233_1 := Aside0.mk hi233_1
                    have HC233_1 := Aside0.mk hl233_1
                    clear hi233_1 hl233_1
                    replace p233 := eq_true p233
                    replace q233 := eq_true q233
                    have ea_ := Option.some.inj (hx231_1.symm.trans hx233_1)
                    injection ea_ with ea_ en_ ec_
                    subst ea_
                    subst ec_
                    clear en_
                    go_wp2
                    go_ret
                    exact ⟨by first | rfl | (simp; done) | (simp [*]; done), by repeat (first | exact Drawn0.refl _ | apply Drawn0.step)⟩
                  · rw [if_neg c8] at H
                    have c8b0 : decide (30 < (((rd_T34 l0 x9_1).f1).length : Int)) = false := decide_eq_false c8
                    have c8b1 : decide (30 < ((rd_T34 l0 x9_1).f1).length) = false := decide_eq_false (by omega)
                    clear c8
                    have H' := Aside0.mk H
                    clear H
                    have p231 : 0 ≤ (x9_1 : Int) := of_decide_eq_true (by first | (with_reducible assumption) | assumption)
                    have q231 : x9_1 < (l0.length : Int) := of_decide_eq_true (by first | (with_reducible assumption) | assumption)
                    obtain ⟨ad231, A231_1, c231_1, e231, hx231_0, hx231_1, hl231_1, hi231_1⟩ := at_T34 HR0.out x9_1 p231 q231
                    cases e231
                    have HR231_1 := Aside0.mk hi231_1
                    have HC231_1 := Aside0.mk hl231_1
                    clear hi231_1 hl231_1
                    replace p231 := eq_true p231
                    replace q231 := eq_true q231
                    have p232 : 0 ≤ (x9_1 : Int) := of_decide_eq_true (by first | (with_reducible assumption) | assumption)
                    have q232 : x9_1 < (l0.length : Int) := of_decide_eq_true (by first | (with_reducible assumption) | assumption)
                    obtain ⟨ad232, A232_1, c232_1, e232, hx232_0, hx232_1, hl232_1, hi232_1⟩ := at_T34 HR0.out x9_1 p232 q232
                    obtain rfl : ad231 = ad232 := (by injection e232)
                    have HR232_1 := Aside0.mk hi232_1
                    have HC232_1 := Aside0.mk hl232_1
                    clear hi232_1 hl232_1
                    replace p232 := eq_true p232
                    replace q232 := eq_true q232
                    have ea_ := Option.some.inj (hx231_1.symm.trans hx232_1)
                    injection ea_ with ea_ en_ ec_
                    subst ea_
                    subst ec_
                    clear en_
                    have p233 : 0 ≤ (x9_1 : Int) := of_decide_eq_true (by first | (with_reducible assumption) | assumption)
                    have q233 : x9_1 < (l0.length : Int) := of_decide_eq_true (by first | (with_reducible assumption) | assumption)
                    obtain ⟨ad233, A233_1, c233_1, e233, hx233_0, hx233_1, hl233_1, hi233_1⟩ := at_T34 HR0.out x9_1 p233 q233
                    obtain rfl : ad231 = ad233 := (by injection e233)
                    have HR233_1 := Aside0.mk hi233_1
                    have HC233_1 := Aside0.mk hl233_1
                    clear hi233_1 hl233_1
                    replace p233 := eq_true p233
                    replace q233 := eq_true q233
                    have ea_ := Option.some.inj (hx231_1.symm.trans hx233_1)
                    injection ea_ with ea_ en_ ec_
                    subst ea_
                    subst ec_
                    clear en_
                    go_wp2
                    go_roundg k1
                    case measure => have := HK1.out; omega
                    case rel => exact ⟨(wrap64 (x9_1 + 1)), (by first | rfl | (simp; done) | (simp [*]; done)), H', ⟨by have := HK1.out; omega⟩, by repeat (first | exact Drawn0.refl _ | apply Drawn0.step)⟩
            · rw [if_neg c5] at H
              exact absurd H (by simp)
          · rw [if_neg c4] at H
            exact absurd H (by simp)
        · rw [if_neg c3] at H
          have c3b0 : decide (x9_1 < (l0.length : Int)) = false := decide_eq_false c3
          clear c3
          obtain rfl := Option.some.inj H
          go_wp2
          go_ret
          exact ⟨by first | rfl | (simp; done) | (simp [*]; done), by repeat (first | exact Drawn0.refl _ | apply Drawn0.step)⟩
/-! ### rubriclaw12_BlocksCuts: function 6 -/
end Go.Proofs.Ytpnoeggnniagfaa.P
namespace Go.Proofs.Ytpnoeggnniagfaa.P
open Go.RowKit Go.Proofs.YtpnoeggnniagfaaW.PrintWords Go.Proofs.YtpnoeggnniagfaaW.PrintLast Go.Proofs.YtpnoeggnniagfaaW.PrintMore
set_option linter.unusedVariables false
def joinP (l : List S34) : List S34 := l.foldl (fun o b => addP o b.f0 b.f1) []
theorem Join_loop (l : List S34) (hl : l.length ≤ 1000) (hc : ∀ b ∈ l, b.f1.length ≤ 30) : ∀ (k i : Nat) (out : List S34), i ≤ l.length → l.length - i + 40 ≤ k → (∀ b ∈ out, b.f1.length ≤ 30) → out.length ≤ i →
    blocks_Join.l0 k out l (l.length : Int) (i : Int) = some ((l.drop i).foldl (fun o b => addP o b.f0 b.f1) out)
  | 0, i, _, _, hk, _, _ => by omega
  | k + 1, i, out, hi, hk, ho, hol => by
    unfold blocks_Join.l0
    by_cases h : i < l.length
    · have hci := hc _ (List.getElem_mem h)
      rw [if_pos (by omega), if_pos (by omega), if_pos (by omega), rd34_get l i h, wrap64_succ i (by omega)]
      have hk1 : ∀ b ∈ out, b.f1.length < k ∧ b.f1.length < 2932031007402 := fun b hb => by have := ho b hb; constructor <;> omega
      rw [add_eq k out l[i].f0 l[i].f1 (by omega) (by omega) hk1]
      simp only [Option.bind_some]
      have hln := addP_length out l[i].f0 l[i].f1
      rw [List.drop_eq_getElem_cons h, List.foldl_cons]
      exact Join_loop l hl hc k (i + 1) _ (by omega) (by omega) (addP_sets (P := fun s => s.length ≤ 30) _ _ _ ho hci) (by omega)
    · rw [if_neg (by omega), List.drop_eq_nil_of_le (by omega)]
      rfl
theorem Join_eq (l : List S34) (hl : l.length ≤ 1000) (hc : ∀ b ∈ l, b.f1.length ≤ 30) (k : Nat) (hk : l.length + 40 ≤ k) : blocks_Join.f k l = some (joinP l) := by
  unfold blocks_Join.f joinP
  have := Join_loop l hl hc k 0 [] (by omega) (by omega) (by simp) (by simp)
  simpa using this
theorem joinP_len (l : List S34) : (joinP l).length ≤ l.length := by
  have := foldl_len (fun o (b : S34) => addP o b.f0 b.f1) (fun o b => addP_length _ _ _) l []
  simpa [joinP] using this
theorem foldl_sets (l : List S34) : ∀ out : List S34, (∀ b ∈ l, b.f1.length ≤ 30) → (∀ b ∈ out, b.f1.length ≤ 30) → ∀ b ∈ l.foldl (fun o b => addP o b.f0 b.f1) out, b.f1.length ≤ 30 := by
  induction l with
  | nil => intro out _ h; exact h
  | cons c l ih => intro out h1 h2; exact ih _ (fun d hd => h1 d (by simp [hd])) (addP_sets (P := fun s => s.length ≤ 30) _ _ _ h2 (h1 c (by simp)))
theorem joinP_sets (l : List S34) (h : ∀ b ∈ l, b.f1.length ≤ 30) : ∀ b ∈ joinP l, b.f1.length ≤ 30 := foldl_sets l [] h (by simp)
theorem joinP_rep (l : List S34) (hl : (rep l).length < 4611686018427387904) : rep (joinP l) = rep l ∧ Fits (joinP l) ∧ Apart (joinP l) := by
  have gen : ∀ (l out : List S34), Fits out → Apart out → (rep out).length + (rep l).length < 4611686018427387904 →
      rep (l.foldl (fun o b => addP o b.f0 b.f1) out) = rep out ++ rep l ∧ Fits (l.foldl (fun o b => addP o b.f0 b.f1) out) ∧ Apart (l.foldl (fun o b => addP o b.f0 b.f1) out) := by
    intro l
    induction l with
    | nil => intro out h1 h2 _; exact ⟨by simp [rep], h1, h2⟩
    | cons b l ih =>
      intro out h1 h2 h3
      have hb : rep (b :: l) = List.replicate b.f0.toNat (keyL b.f1) ++ rep l := by simp [rep]
      rw [hb, List.length_append, List.length_replicate] at h3
      obtain ⟨a1, a2, a3⟩ := addP_rep out b.f0 b.f1 h1 h2 (by omega)
      obtain ⟨b1, b2, b3⟩ := ih (addP out b.f0 b.f1) a2 a3 (by rw [a1, List.length_append, List.length_replicate]; omega)
      exact ⟨by rw [List.foldl_cons, b1, a1, hb, List.append_assoc], b2, b3⟩
  have := gen l [] ⟨by simp, by simp [rep]⟩ trivial (by simpa [rep] using hl)
  simpa [rep, joinP] using this
theorem rep_cons (b : S34) (l : List S34) : rep (b :: l) = List.replicate b.f0.toNat (keyL b.f1) ++ rep l := by simp [rep]
theorem rep_head (x : S34) (l : List S34) (hp : ∀ b ∈ l, 0 < b.f0) (ha : Apart (x :: l)) : (rep l)[0]? ≠ some (keyL x.f1) := by
  cases l with
  | nil => simp [rep]
  | cons y l =>
    have hy := hp y (by simp)
    rw [rep_cons, List.getElem?_append_left (by rw [List.length_replicate]; omega), List.getElem?_replicate, if_pos (by omega)]
    intro h; exact ha.1 (Option.some.inj h).symm
theorem apart_tail (x : S34) (l : List S34) (h : Apart (x :: l)) : Apart l := by
  cases l with
  | nil => trivial
  | cons y l => exact h.2
/-- Proper blocks that tell the same at each place are the same. -/
theorem rep_unique : ∀ (a b : List S34), (∀ x ∈ a, 0 < x.f0) → (∀ x ∈ b, 0 < x.f0) → Apart a → Apart b → rep a = rep b → a.map key34 = b.map key34
  | [], [], _, _, _, _, _ => rfl
  | [], y :: b, _, hb, _, _, h => by
    have hy := hb y (by simp)
    have := congrArg List.length h
    rw [rep_cons, List.length_append, List.length_replicate] at this
    simp [rep] at this
    omega
  | x :: a, [], ha, _, _, _, h => by
    have hx := ha x (by simp)
    have := congrArg List.length h
    rw [rep_cons, List.length_append, List.length_replicate] at this
    simp [rep] at this
    omega
  | x :: a, y :: b, ha, hb, pa, pb, h => by
    have hx := ha x (by simp)
    have hy := hb y (by simp)
    have hha := rep_head x a (fun c hc => ha c (by simp [hc])) pa
    have hhb := rep_head y b (fun c hc => hb c (by simp [hc])) pb
    rw [rep_cons, rep_cons] at h
    have h0 := congrArg (fun l => l[0]?) h
    try simp only at h0
    rw [List.getElem?_append_left (by rw [List.length_replicate]; omega), List.getElem?_append_left (by rw [List.length_replicate]; omega), List.getElem?_replicate, List.getElem?_replicate, if_pos (by omega), if_pos (by omega)] at h0
    have hk : keyL x.f1 = keyL y.f1 := Option.some.inj h0
    have hn : x.f0.toNat = y.f0.toNat := by
      rcases Nat.lt_trichotomy x.f0.toNat y.f0.toNat with h1 | h1 | h1
      · exfalso
        have h2 := congrArg (fun l => l[x.f0.toNat]?) h
        try simp only at h2
        rw [List.getElem?_append_right (by rw [List.length_replicate]; omega), List.getElem?_append_left (by rw [List.length_replicate]; omega), List.length_replicate, Nat.sub_self, List.getElem?_replicate, if_pos h1] at h2
        exact hha (by rw [h2, hk])
      · exact h1
      · exfalso
        have h2 := congrArg (fun l => l[y.f0.toNat]?) h
        try simp only at h2
        rw [List.getElem?_append_left (by rw [List.length_replicate]; omega), List.getElem?_append_right (by rw [List.length_replicate]; omega), List.length_replicate, Nat.sub_self, List.getElem?_replicate, if_pos h1] at h2
        exact hhb (by rw [← h2, hk])
    rw [hn, hk] at h
    have ht := List.append_cancel_left h
    have ih := rep_unique a b (fun c hc => ha c (by simp [hc])) (fun c hc => hb c (by simp [hc])) (apart_tail _ _ pa) (apart_tail _ _ pb) ht
    simp only [List.map_cons, ih, List.cons.injEq, key34, Prod.mk.injEq, hk, and_true]
    omega
def Tame (l : List S34) : Prop := l.length ≤ 200 ∧ ∀ b ∈ l, 0 ≤ b.f0 ∧ b.f0 ≤ 1099511627776 ∧ b.f1.length ≤ 30
theorem tame_loop (l : List S34) (hl : l.length ≤ 200) : ∀ (k i : Nat), i ≤ l.length → l.length - i + 1 ≤ k → (∀ j (hj : j < l.length), j < i → 0 ≤ (l[j]).f0 ∧ (l[j]).f0 ≤ 1099511627776 ∧ (l[j]).f1.length ≤ 30) →
    ∃ t, rubriclaw12_tame.l0 k l (l.length : Int) (i : Int) = some t ∧ (t = true → Tame l)
  | 0, i, _, hk, _ => by omega
  | k + 1, i, hi, hk, hp => by
    unfold rubriclaw12_tame.l0
    by_cases h : i < l.length
    · rw [if_pos (by omega), if_pos (by omega), if_pos (by omega), rd34_get l i h]
      by_cases h1 : (l[i]).f0 < 0
      · rw [if_pos h1]; exact ⟨_, rfl, by simp⟩
      · rw [if_neg h1]
        by_cases h2 : (l[i]).f0 > 1099511627776
        · rw [if_pos h2]; exact ⟨_, rfl, by simp⟩
        · rw [if_neg h2]
          by_cases h3 : ((l[i]).f1.length : Int) > 30
          · rw [if_pos h3]; exact ⟨_, rfl, by simp⟩
          · rw [if_neg h3, wrap64_succ i (by omega)]
            exact tame_loop l hl k (i + 1) (by omega) (by omega) (fun j hj hji => by
              rcases Nat.lt_or_ge j i with h4 | h4
              · exact hp j hj h4
              · obtain rfl : j = i := by omega
                omega)
    · rw [if_neg (by omega)]
      refine ⟨_, rfl, fun _ => ⟨hl, fun b hb => ?_⟩⟩
      obtain ⟨j, hj, rfl⟩ := List.getElem_of_mem hb
      exact hp j hj (by omega)
theorem tame_eq (l : List S34) (k : Nat) (hk : 300 ≤ k) : ∃ t, rubriclaw12_tame.f k l = some t ∧ (t = true → Tame l) := by
  unfold rubriclaw12_tame.f
  by_cases h : (l.length : Int) > 200
  · rw [if_pos h]; exact ⟨_, rfl, by simp⟩
  · rw [if_neg h]
    exact tame_loop l (by omega) k 0 (by omega) (by omega) (fun j hj h0 => by omega)
theorem tame_rep (l : List S34) (h : ∀ b ∈ l, 0 ≤ b.f0 ∧ b.f0 ≤ 1099511627776 ∧ b.f1.length ≤ 30) : (rep l).length ≤ l.length * 1099511627776 := by
  induction l with
  | nil => simp [rep]
  | cons b l ih =>
    have hb := h b (by simp)
    rw [rep_cons, List.length_append, List.length_replicate, List.length_cons]
    have := ih (fun c hc => h c (by simp [hc]))
    omega
end Go.Proofs.Ytpnoeggnniagfaa.P
namespace Go.Proofs.Ytpnoeggnniagfaa.P
open Go.RowKit Go.Proofs.YtpnoeggnniagfaaW.PrintWords Go.Proofs.YtpnoeggnniagfaaW.PrintLast Go.Proofs.YtpnoeggnniagfaaW.PrintMore
attribute [local go_sem] max2_int min2_int max_two min_two max_three min_three max_four min_four   -- for this text's walks alone
set_option linter.unusedVariables false
set_option linter.unusedSimpArgs false
/-! ### rubriclaw12_BlocksPlaces: function 4 -/
end Go.Proofs.Ytpnoeggnniagfaa.P
namespace Go.Proofs.Ytpnoeggnniagfaa.P
open Go.RowKit Go.Proofs.YtpnoeggnniagfaaW.PrintWords Go.Proofs.YtpnoeggnniagfaaW.PrintLast Go.Proofs.YtpnoeggnniagfaaW.PrintMore
set_option linter.unusedVariables false
/-- What is wanted of blocks that are read. -/
structure Ok (l : List S34) : Prop where
  p : ∀ b ∈ l, 0 ≤ b.f0
  s : (rep l).length < 4611686018427387904
  n : l.length ≤ 1000
  t : ∀ b ∈ l, b.f1.length ≤ 30
theorem at_ok (l : List S34) (h : Ok l) (i : Nat) (hi : i < (rep l).length) : ∃ set, blocks_At.f l (i : Int) = some (set, true) ∧ (rep l)[i]? = some (keyL set) ∧ set.length ≤ 30 := by
  have hh := at_hit l h.p h.s (i : Int)
  unfold blocks_At.f
  rw [if_pos ⟨by have := h.n; omega, fun b hb => by have := h.t b hb; omega⟩]
  split at hh
  · rename_i x hx
    rw [hx]
    exact ⟨_, rfl, by simpa using hh.2, h.t _ (List.getElem_mem x.2)⟩
  · exact absurd ⟨by omega, by omega⟩ hh
theorem join_ok (l : List S34) (h : Ok l) : Ok (joinP l) := by
  obtain ⟨r1, r2, r3⟩ := joinP_rep l h.s
  exact ⟨fun b hb => by have := r2.1 b hb; omega, by rw [r1]; exact h.s, Nat.le_trans (joinP_len l) h.n, joinP_sets l h.t⟩
theorem tame_ok (l : List S34) (h : Tame l) : Ok l :=
  ⟨fun b hb => (h.2 b hb).1, by have := tame_rep l h.2; have := h.1; omega, by have := h.1; omega, fun b hb => (h.2 b hb).2.2⟩
end Go.Proofs.Ytpnoeggnniagfaa.P
namespace Go.Proofs.Ytpnoeggnniagfaa
open Go.RowKit P
end Go.Proofs.Ytpnoeggnniagfaa
namespace Go.Proofs.Ytpnoeggnniagfaa.P
open Go.RowKit Go.Proofs.YtpnoeggnniagfaaW.PrintWords Go.Proofs.YtpnoeggnniagfaaW.PrintLast Go.Proofs.YtpnoeggnniagfaaW.PrintMore
set_option linter.unusedVariables false
theorem fin_take_succ (n k : Nat) (h : k < n) : (List.finRange n).take (k + 1) = (List.finRange n).take k ++ [⟨k, h⟩] := by
  rw [List.take_add_one, List.getElem?_eq_getElem (by simpa using h)]; simp
theorem rep_take_succ (l : List S34) (k : Nat) (h : k < l.length) : rep (l.take (k + 1)) = rep (l.take k) ++ List.replicate (l[k]).f0.toNat (keyL (l[k]).f1) := by
  rw [List.take_add_one, List.getElem?_eq_getElem h, rep_append]
  simp [rep]
theorem cut_count (R : List Key) (N : Nat) (key : Key) (I J : Nat) : ((R ++ List.replicate N key).take J).drop I = (R.take J).drop I ++ List.replicate (min (J - R.length) N - (I - min J R.length)) key := by
  rw [List.take_append, List.drop_append, List.length_take, List.take_replicate, List.drop_replicate]
theorem cutP_rep (l : List S34) (ho : Ok l) (I J : Nat) (hI : I ≤ J) (hJ : J ≤ (rep l).length) : ∀ k, k ≤ l.length →
    rep (cutP l I J ((List.finRange l.length).take k)) = ((rep (l.take k)).take J).drop I ∧ Fits (cutP l I J ((List.finRange l.length).take k)) ∧ Apart (cutP l I J ((List.finRange l.length).take k)) := by
  intro k
  induction k with
  | zero => intro _; exact ⟨by simp [cutP, rep], ⟨by simp [cutP], by simp [cutP, rep]⟩, by simp [cutP, Apart]⟩
  | succ k ih =>
    intro hk
    obtain ⟨a1, a2, a3⟩ := ih (by omega)
    have hp := ho.p _ (List.getElem_mem (show k < l.length by omega))
    have hs := ho.s
    have h1 := rep_at l k (by omega)
    have h2 : (rep l).length = (rep (l.take k)).length + ((l[k]'(by omega)).f0.toNat + (rep (l.drop (k + 1))).length) := by
      conv => lhs; rw [h1]
      simp
    rw [fin_take_succ _ k (by omega), cutP_snoc, rep_take_succ l k (by omega), cut_count]
    have hat := atP_eq l k ho.p hs
    simp only [hat]
    rw [wrap64_at ((rep (l.take k)).length + (l[k]'(by omega)).f0) (by omega)]
    have hn : (wrap64 (mn (((rep (l.take k)).length : Int) + (l[k]'(by omega)).f0) (J : Int) - mx ((rep (l.take k)).length : Int) (I : Int))).toNat = min (J - (rep (l.take k)).length) (l[k]'(by omega)).f0.toNat - (I - min J (rep (l.take k)).length) := by
      rw [wrap64_at _ (by unfold mn mx; split <;> split <;> omega)]
      unfold mn mx
      split <;> split <;> omega
    have hl1 : (rep (cutP l I J ((List.finRange l.length).take k))).length ≤ (rep (l.take k)).length := by
      rw [a1, List.length_drop, List.length_take]; omega
    obtain ⟨b1, b2, b3⟩ := addP_rep _ (wrap64 (mn (((rep (l.take k)).length : Int) + (l[k]'(by omega)).f0) (J : Int) - mx ((rep (l.take k)).length : Int) (I : Int))) (l[k]'(by omega)).f1 a2 a3 (by rw [hn]; omega)
    rw [hn, a1] at b1
    exact ⟨b1, b2, b3⟩
/-- Cut, told by its places. -/
theorem cut_ok (l : List S34) (ho : Ok l) (i j : Int) : ∃ m, blocks_Cut.f l i j = some m ∧ Fits m ∧ Apart m ∧ Ok m ∧ m.length ≤ l.length ∧
    rep m = ((rep l).take (min j.toNat (rep l).length)).drop i.toNat := by
  have hs := ho.s
  have hmx : ∀ x : Int, mx x 0 = (x.toNat : Int) := fun x => by unfold mx; split <;> omega
  have hmn : mn (mx j 0) (atP l l.length) = ((min j.toNat (rep l).length : Nat) : Int) := by
    rw [hmx, atP_eq l l.length ho.p hs, List.take_length]
    unfold mn; split <;> omega
  unfold blocks_Cut.f
  rw [if_pos ⟨by have := ho.n; omega, fun b hb => by have := ho.t b hb; omega⟩, hmn, hmx]
  refine ⟨_, rfl, ?_⟩
  by_cases hij : ((min j.toNat (rep l).length : Nat) : Int) ≤ (i.toNat : Int)
  · rw [if_pos hij]
    refine ⟨⟨by simp, by simp [rep]⟩, trivial, ⟨by simp, by simp [rep], by simp, by simp⟩, by simp, ?_⟩
    rw [List.drop_eq_nil_of_le (by rw [List.length_take]; omega)]
    simp [rep]
  · rw [if_neg hij]
    have h := cutP_rep l ho i.toNat (min j.toNat (rep l).length) (by omega) (by omega) l.length (Nat.le_refl _)
    rw [List.take_of_length_le (by simp), List.take_length] at h
    obtain ⟨h1, h2, h3⟩ := h
    have hlen := cutP_length l (i.toNat : Int) ((min j.toNat (rep l).length : Nat) : Int) (List.finRange l.length)
    rw [List.length_finRange] at hlen
    exact ⟨h2, h3, ⟨fun b hb => by have := h2.1 b hb; omega, h2.2, Nat.le_trans hlen ho.n, cutP_sets l (fun s => s.length ≤ 30) ho.t _ _ _⟩, hlen, h1⟩
end Go.Proofs.Ytpnoeggnniagfaa.P
namespace Go.Proofs.Ytpnoeggnniagfaa.P
open Go.RowKit Go.Proofs.YtpnoeggnniagfaaW.PrintWords Go.Proofs.YtpnoeggnniagfaaW.PrintLast Go.Proofs.YtpnoeggnniagfaaW.PrintMore
set_option linter.unusedVariables false
end Go.Proofs.Ytpnoeggnniagfaa.P
namespace Go.Proofs.Ytpnoeggnniagfaa
open Go.RowKit P Go.Proofs.YtpnoeggnniagfaaW.PrintWords Go.Proofs.YtpnoeggnniagfaaW.PrintLast Go.Proofs.YtpnoeggnniagfaaW.PrintMore
end Go.Proofs.Ytpnoeggnniagfaa
namespace Go.Proofs.Ytpnoeggnniagfaa.P
open Go.RowKit Go.Proofs.YtpnoeggnniagfaaW.PrintWords Go.Proofs.YtpnoeggnniagfaaW.PrintLast Go.Proofs.YtpnoeggnniagfaaW.PrintMore
attribute [local go_sem] max2_int min2_int max_two min_two max_three min_three max_four min_four   -- for this text's walks alone
set_option linter.unusedVariables false
set_option linter.unusedSimpArgs false
/-! ### rubriclaw12_BlocksJoin: function 3 -/
/-! ### rubricref12_Join: function 20 -/
def rubricref12_Join.l0 : Nat → List (S34) → List (S34) → Int → Option ((List (S34)))
  | 0, _, _, _ => none
  | k + 1, x0, x3, x4 => if x4 < (x0.length : Int) then (if 0 ≤ x4 then ((rubricref12_Add.f k x3 ((rd_T34 x0 x4).f0) ((rd_T34 x0 x4).f1)).bind fun t336 => (rubricref12_Join.l0 k x0 t336 (wrap64 (x4 + 1)))) else (none)) else (some x3)
def rubricref12_Join.f (k : Nat) (l0 : List (S34)) : Option ((List (S34))) := rubricref12_Join.l0 k l0 ([] : List (S34)) 0
def rubricref12_Join.T5 : Bool × List (List Nat × List Nat) := (true, [([], []), ([], []), ([], []), ([1, 2], [1, 2]), ([3], [3]), ([4], [4]), ([], []), ([], []), ([6, 7], [6, 7]), ([8], [8]), ([9], [9]), ([0, 5, 10], [0, 5, 10]), ([11, 11, 0, 1, 2, 3, 4, 5, 6, 7, 8, 9, 10, 11], [0, 11])])
def rubricref12_Join.B5 : List Nat := [0, 0, 0, 6, 14, 30, 0, 0, 192, 448, 960, 2047, 4095]
theorem rubricref12_Join.tab5 : rtab .any (opsOf Try.f20 5) = rubricref12_Join.T5 := by kernel_rfl
theorem rubricref12_Join.bits5 : waitsOk rubricref12_Join.T5.2 rubricref12_Join.B5 = true := by kernel_rfl
set_option maxHeartbeats 8000000 in
set_option maxRecDepth 100000 in
theorem rubricref12_Join.calls (k : Nat) (A0 : Option Addr) (c0 : Nat) (l0 : List (S34)) (r : List (S34)) (w : World) (hr0 : Kd.C k34 w A0 l0.length l0) (hc0 : l0.length ≤ c0) (h : rubricref12_Join.f k l0 = some r) :
    Calls Try.prog 20 #[.slice A0 l0.length c0] w fun e w' => ∃ v0_ : Value, e = .returned (v0_) ∧ Kd.S k34 34 w' w.heap.size (fun _ => True) v0_ r ∧ Below w.heap.size w w' := by
  have HR0 := Aside0.mk hr0
  have HC0 := Aside0.mk hc0
  clear hr0 hc0
  have HB := Aside0.mk (Below.refl w.heap.size w)
  have H : (rubricref12_Join.l0 k l0 ([] : List (S34)) 0) = some r := h
  clear h
  have H' := Aside0.mk H
  clear H
  go_enter Try.func20, Try.ntmps20
  go_wp2
  go_loopg [3, 4] k (fun kq v3 v4 w' => ∃ (x3_1 : List (S34)) (x4_1 : Int), v4 = .int .i64 x4_1 ∧ Aside0 (rubricref12_Join.l0 kq l0 x3_1 x4_1 = some r) ∧ Aside0 (kq ≤ k) ∧ Aside0 (Kd.S k34 34 w' w.heap.size (fun _ => True) v3 x3_1) ∧ Aside0 (Below w.heap.size w w'))
  case atStart => exact ⟨(([] : List (S34))), (0), (by first | rfl | (simp; done) | (simp [*]; done)), H', ⟨Nat.le_refl _⟩, ⟨by first | exact Kd.S_nil _ _ _ _ _ | exact Kd.N_nil _ _ _ _ _ | exact Kd.V_nil _ _ _ _ _ | exact Kd.Q_nil _ _ _ _ _ | exact Kd.R_nil _ _ _ _ _⟩, ⟨by repeat (first | (with_reducible first | exact HB.out | apply below_alloc | apply pw_below_drewN | apply below_drew1) | exact HB.out | exact Below.refl _ _)⟩⟩
  case round =>
    clear H'
    obtain ⟨x3_1, x4_1, rfl, HA, HK1, HO_3, HB⟩ := hrel
    cases gk with
    | zero => exact absurd HA.out (by simp [rubricref12_Join.l0])
    | succ k1 =>
      have H := HA.out
      clear HA
      simp only [rubricref12_Join.l0] at H
      by_cases c2 : x4_1 < (l0.length : Int)
      · rw [if_pos c2] at H
        have c2b0 : decide (x4_1 < (l0.length : Int)) = true := decide_eq_true c2
        clear c2
        by_cases c3 : 0 ≤ x4_1
        · rw [if_pos c3] at H
          have c3b0 : decide (0 ≤ x4_1) = true := decide_eq_true c3
          clear c3
          replace H := Option.bind_eq_some_iff.mp H
          obtain ⟨t336, A40, H⟩ := H
          replace H : (rubricref12_Join.l0 k1 l0 t336 (wrap64 (x4_1 + 1))) = some r := H
          have A4 := Aside0.mk A40
          clear A40
          have H' := Aside0.mk H
          clear H
          try go_wp2
          have n0_ := Aside0.mk (Kd.S_drew HO_3.out)
          have n1_ := Aside0.mk (below_drew1 HB.out)
          clear HO_3
          clear HB
          have HO_3 := n0_
          have HB := n1_
          clear n0_ n1_
          have p334 : 0 ≤ (x4_1 : Int) := of_decide_eq_true (by first | (with_reducible assumption) | assumption)
          have q334 : x4_1 < (l0.length : Int) := of_decide_eq_true (by first | (with_reducible assumption) | assumption)
          obtain ⟨ad334, A334_1, c334_1, e334, hx334_0, hx334_1, hl334_1, hi334_1⟩ := at_T34 HR0.out x4_1 p334 q334
          have hw334_1 := hx334_1
          have hw334_0 := hx334_0
          cases e334
          replace hx334_0 := (HB.out.cell (World.block_lt_of_cell? w _ hx334_0)).trans hx334_0
          replace hx334_1 := (HB.out.cell (World.block_lt_of_cell? w _ hx334_1)).trans hx334_1
          have HR334_1 := Aside0.mk hi334_1
          have HC334_1 := Aside0.mk hl334_1
          clear hi334_1 hl334_1
          replace p334 := eq_true p334
          replace q334 := eq_true q334
          have p335 : 0 ≤ (x4_1 : Int) := of_decide_eq_true (by first | (with_reducible assumption) | assumption)
          have q335 : x4_1 < (l0.length : Int) := of_decide_eq_true (by first | (with_reducible assumption) | assumption)
          obtain ⟨ad335, A335_1, c335_1, e335, hx335_0, hx335_1, hl335_1, hi335_1⟩ := at_T34 HR0.out x4_1 p335 q335
          have hw335_1 := hx335_1
          have hw335_0 := hx335_0
          obtain rfl : ad334 = ad335 := (by injection e335)
          replace hx335_0 := (HB.out.cell (World.block_lt_of_cell? w _ hx335_0)).trans hx335_0
          replace hx335_1 := (HB.out.cell (World.block_lt_of_cell? w _ hx335_1)).trans hx335_1
          have HR335_1 := Aside0.mk hi335_1
          have HC335_1 := Aside0.mk hl335_1
          clear hi335_1 hl335_1
          replace p335 := eq_true p335
          replace q335 := eq_true q335
          have ea_ := Option.some.inj (hx334_1.symm.trans hx335_1)
          injection ea_ with ea_ en_ ec_
          subst ea_
          subst ec_
          clear en_
          obtain ⟨Ao6, co6, eo6⟩ := Kd.S_slice HO_3.out
          (first | subst eo6 | (injection eo6 with f1_ f2_ f3_; have f4_ := f1_.symm; have f5_ := f3_.symm; clear f1_ f2_ f3_; subst f4_; subst f5_))
          refine start_ (n := 13) (S := fun w' => w'.cell? (ad334.add ((x4_1).toNat * 2)) = some (.int .i64 ((rd_T34 l0 x4_1).f0)) ∧ w'.cell? ⟨(ad334.add ((x4_1).toNat * 2)).block, (ad334.add ((x4_1).toNat * 2)).off + 1, none⟩ = some (.slice A334_1 ((rd_T34 l0 x4_1).f1).length c334_1) ∧ w'.cell? (ad334.add ((x4_1).toNat * 2)) = some (.int .i64 ((rd_T34 l0 x4_1).f0)) ∧ w'.cell? ⟨(ad334.add ((x4_1).toNat * 2)).block, (ad334.add ((x4_1).toNat * 2)).off + 1, none⟩ = some (.slice A334_1 ((rd_T34 l0 x4_1).f1).length c334_1)) (ds := []) #[false, false, false, false, false, false, false, false, false, false, false, false, false] (by kernel_rfl) rfl rfl ⟨((HB.out.cell (World.block_lt_of_cell? w _ hw334_0)).trans hw334_0), ((HB.out.cell (World.block_lt_of_cell? w _ hw334_1)).trans hw334_1), ((HB.out.cell (World.block_lt_of_cell? w _ hw335_0)).trans hw335_0), ((HB.out.cell (World.block_lt_of_cell? w _ hw335_1)).trans hw335_1)⟩ (fun hHeld => ?_); refine with_tabW rubricref12_Join.tab5 rubricref12_Join.bits5 (fun HT_ HW_ => ?_)
          generalize wr.drew = w5 at HO_3 HB HR334_1 HR335_1 hx334_0 hx334_1 hx335_0 hx335_1 hHeld ⊢
          refine pure_ (i := 0) (N := some 11) (v := ?_) (a' := ?_) #[true, false, false, false, false, false, false, false, false, false, false, false, false] rfl rfl (any_of HT_.out (by kernel_rfl)) (fun _ _ _ h => h) (Or.inl ⟨by rfl, ?_⟩) ?_ ?_
          rotate_left
          · intro w'
            go_simp
            with_reducible rfl
          rotate_left
          · simp only [Act.put, List.setIfInBounds_toArray, List.set_cons_zero, List.set_cons_succ, i64_w, i32_w]
            rfl
          refine pure_ (i := 1) (N := some 12) (v := ?_) (a' := ?_) #[true, true, false, false, false, false, false, false, false, false, false, false, false] rfl rfl (any_of HT_.out (by kernel_rfl)) (fun _ _ _ h => h) (Or.inl ⟨by rfl, ?_⟩) ?_ ?_
          rotate_left
          · intro w'
            go_simp
            with_reducible rfl
          rotate_left
          · simp only [Act.put, List.setIfInBounds_toArray, List.set_cons_zero, List.set_cons_succ, i64_w, i32_w]
            rfl
          refine pure_ (i := 2) (N := some 13) (v := ?_) (a' := ?_) #[true, true, true, false, false, false, false, false, false, false, false, false, false] rfl rfl (any_of HT_.out (by kernel_rfl)) (fun _ _ _ h => h) (Or.inl ⟨by rfl, ?_⟩) ?_ ?_
          rotate_left
          · intro w'
            go_simp
            with_reducible rfl
          rotate_left
          · simp only [Act.put, List.setIfInBounds_toArray, List.set_cons_zero, List.set_cons_succ, i64_w, i32_w]
            rfl
          refine pure_ (i := 3) (N := some 14) (v := ?_) (a' := ?_) #[true, true, true, true, false, false, false, false, false, false, false, false, false] rfl rfl (any_of HT_.out (by kernel_rfl)) (fun _ _ _ h => h) (Or.inl ⟨by rfl, ?_⟩) ?_ ?_
          rotate_left
          · intro w'
            go_simp
            with_reducible rfl
          rotate_left
          · simp only [Act.put, List.setIfInBounds_toArray, List.set_cons_zero, List.set_cons_succ, i64_w, i32_w]
            rfl
          refine pure_ (i := 4) (N := some 15) (v := ?_) (a' := ?_) #[true, true, true, true, true, false, false, false, false, false, false, false, false] rfl rfl (any_of HT_.out (by kernel_rfl)) (fun _ _ _ h => h) (Or.inl ⟨by rfl, ?_⟩) ?_ ?_
          rotate_left
          · intro w'
            go_simp
            with_reducible rfl
          rotate_left
          · simp only [Act.put, List.setIfInBounds_toArray, List.set_cons_zero, List.set_cons_succ, i64_w, i32_w]
            rfl
          refine pure_ (i := 6) (N := some 17) (v := ?_) (a' := ?_) #[true, true, true, true, true, false, true, false, false, false, false, false, false] rfl rfl (any_of HT_.out (by kernel_rfl)) (fun _ _ _ h => h) (Or.inl ⟨by rfl, ?_⟩) ?_ ?_
          rotate_left
          · intro w'
            go_simp
            with_reducible rfl
          rotate_left
          · simp only [Act.put, List.setIfInBounds_toArray, List.set_cons_zero, List.set_cons_succ, i64_w, i32_w]
            rfl
          refine pure_ (i := 7) (N := some 18) (v := ?_) (a' := ?_) #[true, true, true, true, true, false, true, true, false, false, false, false, false] rfl rfl (any_of HT_.out (by kernel_rfl)) (fun _ _ _ h => h) (Or.inl ⟨by rfl, ?_⟩) ?_ ?_
          rotate_left
          · intro w'
            go_simp
            with_reducible rfl
          rotate_left
          · simp only [Act.put, List.setIfInBounds_toArray, List.set_cons_zero, List.set_cons_succ, i64_w, i32_w]
            rfl
          refine pure_ (i := 8) (N := some 19) (v := ?_) (a' := ?_) #[true, true, true, true, true, false, true, true, true, false, false, false, false] rfl rfl (any_of HT_.out (by kernel_rfl)) (fun _ _ _ h => h) (Or.inl ⟨by rfl, ?_⟩) ?_ ?_
          rotate_left
          · intro w'
            go_simp
            with_reducible rfl
          rotate_left
          · simp only [Act.put, List.setIfInBounds_toArray, List.set_cons_zero, List.set_cons_succ, i64_w, i32_w]
            rfl
          refine pure_ (i := 9) (N := some 20) (v := ?_) (a' := ?_) #[true, true, true, true, true, false, true, true, true, true, false, false, false] rfl rfl (any_of HT_.out (by kernel_rfl)) (fun _ _ _ h => h) (Or.inl ⟨by rfl, ?_⟩) ?_ ?_
          rotate_left
          · intro w'
            go_simp
            with_reducible rfl
          rotate_left
          · simp only [Act.put, List.setIfInBounds_toArray, List.set_cons_zero, List.set_cons_succ, i64_w, i32_w]
            rfl
          refine take_ (i := 5) (N := some 16) (v := ?_) (a' := ?_) #[true, true, true, true, true, true, true, true, true, true, false, false, false] rfl rfl (take_ofW HT_.out HW_.out (by kernel_rfl)) (fun _ _ _ h => h) (Or.inl ⟨by rfl, ?_⟩) hHeld ?_ ?_
          rotate_left
          · rintro w' ⟨s0, s1, s2, s3⟩
            go_simp
            with_reducible rfl
          rotate_left
          · simp only [Act.put, List.setIfInBounds_toArray, List.set_cons_zero, List.set_cons_succ, i64_w, i32_w]
            rfl
          refine take_ (i := 10) (N := some 21) (v := ?_) (a' := ?_) #[true, true, true, true, true, true, true, true, true, true, true, false, false] rfl rfl (take_ofW HT_.out HW_.out (by kernel_rfl)) (fun _ _ _ h => h) (Or.inl ⟨by rfl, ?_⟩) hHeld ?_ ?_
          rotate_left
          · rintro w' ⟨s0, s1, s2, s3⟩
            go_simp
            with_reducible rfl
          rotate_left
          · simp only [Act.put, List.setIfInBounds_toArray, List.set_cons_zero, List.set_cons_succ, i64_w, i32_w]
            rfl
          refine one_ (i := 11) (N := some 22) #[true, true, true, true, true, true, true, true, true, true, true, true, false] rfl rfl (one_of HT_.out (by kernel_rfl)) (by decide) (fun K hK => ?_)
          refine goes_ Try.func27 (by kernel_rfl) rfl #[.slice Ao6 x3_1.length co6, .int .i64 ((rd_T34 l0 x4_1).f0), .slice A334_1 ((rd_T34 l0 x4_1).f1).length c334_1] (by rfl) rfl rfl (by (try simp only [List.map_toArray, List.map_cons, List.map_nil]); first | done | rfl | (simp only [List.length_drop, List.length_take]; rfl)) ?_
          with_reducible refine (rubricref12_Add.calls k1 _ _ x3_1 ((rd_T34 l0 x4_1).f0) _ _ ((rd_T34 l0 x4_1).f1) t336 w _ ?side1 ?side2 ?side3 ?side4 A4.out).mono ?_
          (case side1 => exact (by (with_reducible repeat (first | apply Kd.S_alloc | apply Kd.S_drewN | apply Kd.S_drew)); exact Kd.S_mono HO_3.out (fun _ _ => trivial)))
          (case side2 => exact (by repeat (first | (with_reducible first | exact HB.out | apply below_alloc | apply pw_below_drewN | apply below_drew1) | exact HB.out | exact Below.refl _ _)))
          (case side3 => exact HR335_1.out)
          (case side4 => exact HC335_1.out)
          rintro e w7 ⟨v337, rfl, ho0, hb⟩
          refine ⟨_, rfl, ?_⟩
          have n0_ := Aside0.mk (trivial)
          have n1_ := Aside0.mk (ho0)
          have n2_ := Aside0.mk (hb)
          clear HO_3
          clear HB
          have HO_3 := n0_
          have HO338 := n1_
          have HB := n2_
          clear n0_ n1_ n2_
          (try clear hb)
          (try clear hb2)
          (try clear hk)
          (try clear hi)
          (try clear ho0)
          refine hK.out _ _ ⟨((HB.out.cell (World.block_lt_of_cell? w _ hw334_0)).trans hw334_0), ((HB.out.cell (World.block_lt_of_cell? w _ hw334_1)).trans hw334_1), ((HB.out.cell (World.block_lt_of_cell? w _ hw335_0)).trans hw335_0), ((HB.out.cell (World.block_lt_of_cell? w _ hw335_1)).trans hw335_1)⟩ (fun hHeld => ?_)
          clear hK K
          refine norm_ (a' := ?_) ?_ ?_
          rotate_left
          · show Act.put _ (some 22) _ = _
            simp only [Act.put, List.setIfInBounds_toArray, List.set_cons_zero, List.set_cons_succ, i64_w, i32_w]
            rfl
          refine pure_ (i := 12) (N := some 3) (v := ?_) (a' := ?_) #[true, true, true, true, true, true, true, true, true, true, true, true, true] rfl rfl (any_of HT_.out (by kernel_rfl)) (fun _ _ _ h => h) (Or.inl ⟨by rfl, ?_⟩) ?_ ?_
          rotate_left
          · intro w'
            go_simp
            with_reducible rfl
          rotate_left
          · simp only [Act.put, List.setIfInBounds_toArray, List.set_cons_zero, List.set_cons_succ, i64_w, i32_w]
            rfl
          refine done_ (done_of HT_.out (by kernel_rfl)) ?_
          try go_wp2
          go_roundg k1
          case measure => have := HK1.out; omega
          case rel => exact ⟨(t336), (wrap64 (x4_1 + 1)), (by first | rfl | (simp; done) | (simp [*]; done)), H', ⟨by have := HK1.out; omega⟩, ⟨by (with_reducible repeat (first | apply Kd.S_alloc | apply Kd.S_drewN | apply Kd.S_drew)); exact Kd.S_mono HO338.out (fun _ hk => trivial)⟩, ⟨by repeat (first | (with_reducible first | exact HB.out | apply below_alloc | apply pw_below_drewN | apply below_drew1) | exact HB.out | exact Below.refl _ _)⟩⟩
        · rw [if_neg c3] at H
          exact absurd H (by simp)
      · rw [if_neg c2] at H
        have c2b0 : decide (x4_1 < (l0.length : Int)) = false := decide_eq_false c2
        clear c2
        obtain rfl := Option.some.inj H
        go_wp2
        go_ret
        exact ⟨_, by first | rfl | (simp [errW_none, errW_some] <;> rfl) | (simp [*, errW_none, errW_some] <;> rfl), by (with_reducible repeat (first | apply Kd.S_alloc | apply Kd.S_drewN | apply Kd.S_drew)); exact HO_3.out, by repeat (first | (with_reducible first | exact HB.out | apply below_alloc | apply pw_below_drewN | apply below_drew1) | exact HB.out | exact Below.refl _ _)⟩
end Go.Proofs.Ytpnoeggnniagfaa.P
