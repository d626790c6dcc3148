-- several texts in one: Px8 Px10 TameB Nf RefA Px16 SameO RefSame ManyA
import Derived.BigGuardPart
import Derived.Test.YtmjeoknamoegpaaZ2
import Derived.Test.YtmjeoknamoegpaaZ3
import Derived.Test.YtmjeoknamoegpaaZ4
import Derived.Test.YtmjeoknamoegpaaZ5
import Derived.Test.YtmjeoknamoegpaaZ6
namespace Go.Proofs.Ytmjeoknamoegpaa.P
open Go.RowKit Go.Proofs.YtmjeoknamoegpaaW.PrintWords Go.Proofs.YtmjeoknamoegpaaW.PrintLast Go.Proofs.YtmjeoknamoegpaaW.PrintMore
attribute [local go_sem] max2_int min2_int max_two min_two max_three min_three max_four min_four   -- for this text's walks alone
set_option linter.unusedVariables false
set_option linter.unusedSimpArgs false
/-! ### rubricref04_Fits: function 55 -/
def rubricref04_Fits.f (k : Nat) (l0 : List (S64)) (a1 : Int) (a2_0 : Int) (a2_1 : Int) (a2_2 : Int) (a2_3 : ByteArray) : Option (Bool) := (rubricref04_Find.f k l0 a1).bind fun bt164 => (if bt164.2.2.2.2.2.2 = true then ((rubricref03_May.f a2_0 a2_1 a2_2 a2_3).bind fun t172 => (if t172 = true then (some (a2_0 == bt164.2.2.1)) else (some false))) else (some false))
set_option maxHeartbeats 8000000 in
set_option maxRecDepth 100000 in
theorem rubricref04_Fits.calls (k : Nat) (A0 : Option Addr) (c0 : Nat) (l0 : List (S64)) (a1 : Int) (a2_0 : Int) (a2_1 : Int) (a2_2 : Int) (a2_3 : ByteArray) (r : Bool) (w : World) (hr0 : Kd.C k64 w A0 l0.length l0) (hc0 : l0.length ≤ c0) (h : rubricref04_Fits.f k l0 a1 a2_0 a2_1 a2_2 a2_3 = some r) :
  Calls Try.prog 55 #[.slice A0 l0.length c0, .int .i64 a1, .agg #[.int .u8 a2_0, .int .i64 a2_1, .int .u64 a2_2, .string a2_3]] w fun e w' => e = .returned (.bool r) ∧ Below w.heap.size w w' := by
 have hu38 := Try.underlying38
 have hu64 := Try.underlying64
 have HR0 := Aside0.mk hr0
 have HC0 := Aside0.mk hc0
 clear hr0 hc0
 have HB := Aside0.mk (Below.refl w.heap.size w)
 have H : ((rubricref04_Find.f k l0 a1).bind fun bt164 => (if bt164.2.2.2.2.2.2 = true then ((rubricref03_May.f a2_0 a2_1 a2_2 a2_3).bind fun t172 => (if t172 = true then (some (a2_0 == bt164.2.2.1)) else (some false))) else (some false))) = some r := h
 clear h
 replace H := Option.bind_eq_some_iff.mp H
 obtain ⟨⟨t164, t165, t166, t167, t168, t169, t170⟩, A40, H⟩ := H
 replace H : (if t170 = true then ((rubricref03_May.f a2_0 a2_1 a2_2 a2_3).bind fun t172 => (if t172 = true then (some (a2_0 == t166)) else (some false))) else (some false)) = some r := H
 have A4 := Aside0.mk A40
 clear A40
 by_cases c5 : t170 = true
 ·subst c5
  have H1 : ((rubricref03_May.f a2_0 a2_1 a2_2 a2_3).bind fun t172 => (if t172 = true then (some (a2_0 == t166)) else (some false))) = some r := by rw [if_pos rfl] at H; exact H
  clear H
  have H := H1
  clear H1
  replace H := Option.bind_eq_some_iff.mp H
  obtain ⟨t172, A60, H⟩ := H
  replace H : (if t172 = true then (some (a2_0 == t166)) else (some false)) = some r := H
  have A6 := Aside0.mk A60
  clear A60
  by_cases c7 : t172 = true
  ·subst c7
   have H1 : (some (a2_0 == t166)) = some r := by rw [if_pos rfl] at H; exact H
   clear H
   have H := H1
   clear H1
   obtain rfl := Option.some.inj H
   go_enter Try.func55, Try.ntmps55
   go_wp2_with (first | ((with_reducible refine gate_dst (N := 5) rfl ?_); refine box_event ?hg (N := 5) ?hd (cs := #[.int .u8 a2_0, .int .i64 a2_1, .int .u64 a2_2, .string a2_3]) (t := 38) ?hr ?_; (case hd => rfl); (case hg => rfl); (case hr => first | (go_simp; done) | (go_simp; rfl)); intro gb163 hg w8 hbox hb; have n0_ := Aside0.mk (below_step (by repeat (first | (with_reducible first | exact HB.out | apply below_alloc | apply pw_below_drewN | apply below_drew1) | exact HB.out | exact Below.refl _ _)) hb); have n1_ := Aside0.mk (hbox); have n2_ := Aside0.mk ((by rw [hg]; exact (below_size (by repeat (first | (with_reducible first | exact HB.out | apply below_alloc | apply pw_below_drewN | apply below_drew1) | exact HB.out | exact Below.refl _ _))) : w.heap.size ≤ gb163)); have n3_ := Aside0.mk ((by rw [hg]; exact (below_size (by repeat (first | (with_reducible first | exact HB.out | apply below_alloc | apply pw_below_drewN | apply below_drew1) | exact HB.out | exact Below.refl _ _))) : w.heap.size ≤ gb163)); clear HB; have HB := n0_; have BK163 := n1_; have GW163 := n2_; have GE163 := n3_; clear n0_ n1_ n2_ n3_; clear hb hbox hg) | ((with_reducible refine gate_callee (f := 57) rfl ?_); refine goesL_ (some 12) rfl rfl Try.func57 (by kernel_rfl) rfl #[.slice A0 l0.length c0, .int .i64 a1] rfl (by (try simp only [List.map_toArray, List.map_cons, List.map_nil]); first | done | rfl | (simp only [List.length_drop, List.length_take]; rfl)) ?_; (with_reducible refine (rubricref04_Find.calls k _ _ l0 a1 t164 t165 t166 t167 t168 t169 true _ ?side1 ?side2 A4.out).mono ?_); (case side1 => repeat (first | exact (Kd.C_below HR0.out HB.out) | (with_reducible refine Kd.C_alloc ?_ _) | (with_reducible refine Kd.C_drewN ?_ _) | (with_reducible refine Kd.C_drew ?_))); (case side2 => exact HC0.out); rintro e w9 ⟨rfl, hb⟩; refine ⟨_, rfl, ?_⟩; have n0_ := Aside0.mk (blk_below (g := gb163) (o := .cells #[.int .u8 a2_0, .int .i64 a2_1, .int .u64 a2_2, .string a2_3] 38 (0, 0)) (by (with_reducible repeat (first | refine blk_drewN ?_ _ | refine blk_drew ?_ | refine blk_alloc ?_ _)); exact BK163.out) hb); have n1_ := Aside0.mk (below_step (by repeat (first | (with_reducible first | exact HB.out | apply below_alloc | apply pw_below_drewN | apply below_drew1 | refine below_set ?_ GE163.out) | exact HB.out)) hb); clear BK163; clear HB; have BK163 := n0_; have HB := n1_; clear n0_ n1_; (try clear hb); (try clear hb2); (try clear hk); (try clear hi)) | ((with_reducible refine gate_dst (N := 7) rfl ?_); refine box_event ?hg (N := 7) ?hd (cs := #[.int .i64 0, .bool false, .int .u8 0, .bool false, .bool false, .int .i64 0]) (t := 64) ?hr ?_; (case hd => rfl); (case hg => rfl); (case hr => first | (go_simp; done) | (go_simp; rfl)); intro gb171 hg w10 hbox hb; have n0_ := Aside0.mk (blk_below (g := gb163) (o := .cells #[.int .u8 a2_0, .int .i64 a2_1, .int .u64 a2_2, .string a2_3] 38 (0, 0)) (by (with_reducible repeat (first | refine blk_drewN ?_ _ | refine blk_drew ?_ | refine blk_alloc ?_ _)); exact BK163.out) hb); have n1_ := Aside0.mk (below_step (by repeat (first | (with_reducible first | exact HB.out | apply below_alloc | apply pw_below_drewN | apply below_drew1 | refine below_set ?_ GE163.out) | exact HB.out)) hb); have n2_ := Aside0.mk (hbox); have n3_ := Aside0.mk ((by rw [hg]; exact (below_size (by repeat (first | (with_reducible first | exact HB.out | apply below_alloc | apply pw_below_drewN | apply below_drew1 | refine below_set ?_ GE163.out) | exact HB.out))) : w.heap.size ≤ gb171)); have n4_ := Aside0.mk ((by rw [hg]; exact (below_size (by repeat (first | (with_reducible first | exact HB.out | apply below_alloc | apply pw_below_drewN | apply below_drew1 | refine below_set ?_ GE163.out) | exact HB.out))) : w.heap.size ≤ gb171)); have n5_ := Aside0.mk ((by rw [hg]; exact Nat.ne_of_lt (blk_lt (g := gb163) (o := .cells #[.int .u8 a2_0, .int .i64 a2_1, .int .u64 a2_2, .string a2_3] 38 (0, 0)) (by (with_reducible repeat (first | refine blk_drewN ?_ _ | refine blk_drew ?_ | refine blk_alloc ?_ _)); exact BK163.out)) : gb163 ≠ gb171)); have n6_ := Aside0.mk ((by rw [hg]; exact Nat.ne_of_gt (blk_lt (g := gb163) (o := .cells #[.int .u8 a2_0, .int .i64 a2_1, .int .u64 a2_2, .string a2_3] 38 (0, 0)) (by (with_reducible repeat (first | refine blk_drewN ?_ _ | refine blk_drew ?_ | refine blk_alloc ?_ _)); exact BK163.out)) : gb171 ≠ gb163)); clear BK163; clear HB; have BK163 := n0_; have HB := n1_; have BK171 := n2_; have GW171 := n3_; have GE171 := n4_; have NB163_171 := n5_; have NB171_163 := n6_; clear n0_ n1_ n2_ n3_ n4_ n5_ n6_; clear hb hbox hg; have hnb11 := NB171_163.out; have hnc11 := NB163_171.out; have hcz12_0 : w10.cell? ⟨gb171, 0, none⟩ = some (.int .i64 0) := (blk_cell BK171.out 0).trans rfl; have hcz12_1 : w10.cell? ⟨gb171, 1, none⟩ = some (.bool false) := (blk_cell BK171.out 1).trans rfl; have hcz12_2 : w10.cell? ⟨gb171, 2, none⟩ = some (.int .u8 0) := (blk_cell BK171.out 2).trans rfl; have hcz12_3 : w10.cell? ⟨gb171, 3, none⟩ = some (.bool false) := (blk_cell BK171.out 3).trans rfl; have hcz12_4 : w10.cell? ⟨gb171, 4, none⟩ = some (.bool false) := (blk_cell BK171.out 4).trans rfl; have hcz12_5 : w10.cell? ⟨gb171, 5, none⟩ = some (.int .i64 0) := (blk_cell BK171.out 5).trans rfl; have hfz12_0 := blk_frozen BK171.out 0; have hfz12_1 := blk_frozen BK171.out 1; have hfz12_2 := blk_frozen BK171.out 2; have hfz12_3 := blk_frozen BK171.out 3; have hfz12_4 := blk_frozen BK171.out 4; have hfz12_5 := blk_frozen BK171.out 5; have hcz13_0 : w10.cell? ⟨gb163, 0, none⟩ = some (.int .u8 a2_0) := (blk_cell BK163.out 0).trans rfl; have hcz13_1 : w10.cell? ⟨gb163, 1, none⟩ = some (.int .i64 a2_1) := (blk_cell BK163.out 1).trans rfl; have hcz13_2 : w10.cell? ⟨gb163, 2, none⟩ = some (.int .u64 a2_2) := (blk_cell BK163.out 2).trans rfl; have hcz13_3 : w10.cell? ⟨gb163, 3, none⟩ = some (.string a2_3) := (blk_cell BK163.out 3).trans rfl; have hfz13_0 := blk_frozen BK163.out 0; have hfz13_1 := blk_frozen BK163.out 1; have hfz13_2 := blk_frozen BK163.out 2; have hfz13_3 := blk_frozen BK163.out 3) | (go_at_call 54; (with_reducible refine (rubricref03_May.calls a2_0 a2_1 a2_2 a2_3 true _ A6.out).mono ?_); rintro e w14 ⟨rfl, hb⟩; have n0_ := Aside0.mk (blk_below (g := gb163) (o := .cells #[.int .u8 a2_0, .int .i64 a2_1, .int .u64 a2_2, .string a2_3] 38 (0, 0)) (by (with_reducible repeat (first | refine blk_drewN ?_ _ | refine blk_drew ?_ | refine blk_alloc ?_ _)); refine blk_far ?_ NB163_171.out _; (with_reducible repeat (first | refine blk_drewN ?_ _ | refine blk_drew ?_ | refine blk_alloc ?_ _)); refine blk_far ?_ NB163_171.out _; (with_reducible repeat (first | refine blk_drewN ?_ _ | refine blk_drew ?_ | refine blk_alloc ?_ _)); refine blk_far ?_ NB163_171.out _; (with_reducible repeat (first | refine blk_drewN ?_ _ | refine blk_drew ?_ | refine blk_alloc ?_ _)); refine blk_far ?_ NB163_171.out _; (with_reducible repeat (first | refine blk_drewN ?_ _ | refine blk_drew ?_ | refine blk_alloc ?_ _)); refine blk_far ?_ NB163_171.out _; (with_reducible repeat (first | refine blk_drewN ?_ _ | refine blk_drew ?_ | refine blk_alloc ?_ _)); refine blk_far ?_ NB163_171.out _; (with_reducible repeat (first | refine blk_drewN ?_ _ | refine blk_drew ?_ | refine blk_alloc ?_ _)); exact BK163.out) hb); have n1_ := Aside0.mk (blk_below (g := gb171) (o := .cells #[.int .i64 t164, .bool t165, .int .u8 t166, .bool t167, .bool t168, .int .i64 t169] 64 (0, 0)) (by (with_reducible repeat (first | refine blk_drewN ?_ _ | refine blk_drew ?_ | refine blk_alloc ?_ _)); refine blk_put (cs := #[.int .i64 t164, .bool t165, .int .u8 t166, .bool t167, .bool t168, .int .i64 0]) ?_ 5 _ rfl; (with_reducible repeat (first | refine blk_drewN ?_ _ | refine blk_drew ?_ | refine blk_alloc ?_ _)); refine blk_put (cs := #[.int .i64 t164, .bool t165, .int .u8 t166, .bool t167, .bool false, .int .i64 0]) ?_ 4 _ rfl; (with_reducible repeat (first | refine blk_drewN ?_ _ | refine blk_drew ?_ | refine blk_alloc ?_ _)); refine blk_put (cs := #[.int .i64 t164, .bool t165, .int .u8 t166, .bool false, .bool false, .int .i64 0]) ?_ 3 _ rfl; (with_reducible repeat (first | refine blk_drewN ?_ _ | refine blk_drew ?_ | refine blk_alloc ?_ _)); refine blk_put (cs := #[.int .i64 t164, .bool t165, .int .u8 0, .bool false, .bool false, .int .i64 0]) ?_ 2 _ rfl; (with_reducible repeat (first | refine blk_drewN ?_ _ | refine blk_drew ?_ | refine blk_alloc ?_ _)); refine blk_put (cs := #[.int .i64 t164, .bool false, .int .u8 0, .bool false, .bool false, .int .i64 0]) ?_ 1 _ rfl; (with_reducible repeat (first | refine blk_drewN ?_ _ | refine blk_drew ?_ | refine blk_alloc ?_ _)); refine blk_put (cs := #[.int .i64 0, .bool false, .int .u8 0, .bool false, .bool false, .int .i64 0]) ?_ 0 _ rfl; (with_reducible repeat (first | refine blk_drewN ?_ _ | refine blk_drew ?_ | refine blk_alloc ?_ _)); exact BK171.out) hb); have n2_ := Aside0.mk (below_step (by repeat (first | (with_reducible first | exact HB.out | apply below_alloc | apply pw_below_drewN | apply below_drew1 | refine below_set ?_ GE163.out | refine below_set ?_ GE171.out) | exact HB.out)) hb); clear BK163; clear BK171; clear HB; have BK163 := n0_; have BK171 := n1_; have HB := n2_; clear n0_ n1_ n2_; (try clear hb); (try clear hb2); (try clear hk); (try clear hi); have hcz15_0 : w14.cell? ⟨gb163, 0, none⟩ = some (.int .u8 a2_0) := (blk_cell BK163.out 0).trans rfl; have hcz15_1 : w14.cell? ⟨gb163, 1, none⟩ = some (.int .i64 a2_1) := (blk_cell BK163.out 1).trans rfl; have hcz15_2 : w14.cell? ⟨gb163, 2, none⟩ = some (.int .u64 a2_2) := (blk_cell BK163.out 2).trans rfl; have hcz15_3 : w14.cell? ⟨gb163, 3, none⟩ = some (.string a2_3) := (blk_cell BK163.out 3).trans rfl; have hfz15_0 := blk_frozen BK163.out 0; have hfz15_1 := blk_frozen BK163.out 1; have hfz15_2 := blk_frozen BK163.out 2; have hfz15_3 := blk_frozen BK163.out 3; have hcz16_0 : w14.cell? ⟨gb171, 0, none⟩ = some (.int .i64 t164) := (blk_cell BK171.out 0).trans rfl; have hcz16_1 : w14.cell? ⟨gb171, 1, none⟩ = some (.bool t165) := (blk_cell BK171.out 1).trans rfl; have hcz16_2 : w14.cell? ⟨gb171, 2, none⟩ = some (.int .u8 t166) := (blk_cell BK171.out 2).trans rfl; have hcz16_3 : w14.cell? ⟨gb171, 3, none⟩ = some (.bool t167) := (blk_cell BK171.out 3).trans rfl; have hcz16_4 : w14.cell? ⟨gb171, 4, none⟩ = some (.bool t168) := (blk_cell BK171.out 4).trans rfl; have hcz16_5 : w14.cell? ⟨gb171, 5, none⟩ = some (.int .i64 t169) := (blk_cell BK171.out 5).trans rfl; have hfz16_0 := blk_frozen BK171.out 0; have hfz16_1 := blk_frozen BK171.out 1; have hfz16_2 := blk_frozen BK171.out 2; have hfz16_3 := blk_frozen BK171.out 3; have hfz16_4 := blk_frozen BK171.out 4; have hfz16_5 := blk_frozen BK171.out 5))
   go_ret
   exact ⟨by first | rfl | (simp [errW_none, errW_some] <;> rfl) | (simp [*, errW_none, errW_some] <;> rfl), by repeat (first | (with_reducible first | exact HB.out | apply below_alloc | apply pw_below_drewN | apply below_drew1 | refine below_set ?_ GE163.out | refine below_set ?_ GE171.out) | exact HB.out)⟩
  ·replace c7 := Bool.eq_false_iff.mpr c7
   subst c7
   have H1 : (some false) = some r := by rw [if_neg (show ¬ (false = true) by decide)] at H; exact H
   clear H
   have H := H1
   clear H1
   obtain rfl := Option.some.inj H
   go_enter Try.func55, Try.ntmps55
   go_wp2_with (first | ((with_reducible refine gate_dst (N := 5) rfl ?_); refine box_event ?hg (N := 5) ?hd (cs := #[.int .u8 a2_0, .int .i64 a2_1, .int .u64 a2_2, .string a2_3]) (t := 38) ?hr ?_; (case hd => rfl); (case hg => rfl); (case hr => first | (go_simp; done) | (go_simp; rfl)); intro gb163 hg w17 hbox hb; have n0_ := Aside0.mk (below_step (by repeat (first | (with_reducible first | exact HB.out | apply below_alloc | apply pw_below_drewN | apply below_drew1) | exact HB.out | exact Below.refl _ _)) hb); have n1_ := Aside0.mk (hbox); have n2_ := Aside0.mk ((by rw [hg]; exact (below_size (by repeat (first | (with_reducible first | exact HB.out | apply below_alloc | apply pw_below_drewN | apply below_drew1) | exact HB.out | exact Below.refl _ _))) : w.heap.size ≤ gb163)); have n3_ := Aside0.mk ((by rw [hg]; exact (below_size (by repeat (first | (with_reducible first | exact HB.out | apply below_alloc | apply pw_below_drewN | apply below_drew1) | exact HB.out | exact Below.refl _ _))) : w.heap.size ≤ gb163)); clear HB; have HB := n0_; have BK163 := n1_; have GW163 := n2_; have GE163 := n3_; clear n0_ n1_ n2_ n3_; clear hb hbox hg) | ((with_reducible refine gate_callee (f := 57) rfl ?_); refine goesL_ (some 12) rfl rfl Try.func57 (by kernel_rfl) rfl #[.slice A0 l0.length c0, .int .i64 a1] rfl (by (try simp only [List.map_toArray, List.map_cons, List.map_nil]); first | done | rfl | (simp only [List.length_drop, List.length_take]; rfl)) ?_; (with_reducible refine (rubricref04_Find.calls k _ _ l0 a1 t164 t165 t166 t167 t168 t169 true _ ?side1 ?side2 A4.out).mono ?_); (case side1 => repeat (first | exact (Kd.C_below HR0.out HB.out) | (with_reducible refine Kd.C_alloc ?_ _) | (with_reducible refine Kd.C_drewN ?_ _) | (with_reducible refine Kd.C_drew ?_))); (case side2 => exact HC0.out); rintro e w18 ⟨rfl, hb⟩; refine ⟨_, rfl, ?_⟩; have n0_ := Aside0.mk (blk_below (g := gb163) (o := .cells #[.int .u8 a2_0, .int .i64 a2_1, .int .u64 a2_2, .string a2_3] 38 (0, 0)) (by (with_reducible repeat (first | refine blk_drewN ?_ _ | refine blk_drew ?_ | refine blk_alloc ?_ _)); exact BK163.out) hb); have n1_ := Aside0.mk (below_step (by repeat (first | (with_reducible first | exact HB.out | apply below_alloc | apply pw_below_drewN | apply below_drew1 | refine below_set ?_ GE163.out) | exact HB.out)) hb); clear BK163; clear HB; have BK163 := n0_; have HB := n1_; clear n0_ n1_; (try clear hb); (try clear hb2); (try clear hk); (try clear hi)) | ((with_reducible refine gate_dst (N := 7) rfl ?_); refine box_event ?hg (N := 7) ?hd (cs := #[.int .i64 0, .bool false, .int .u8 0, .bool false, .bool false, .int .i64 0]) (t := 64) ?hr ?_; (case hd => rfl); (case hg => rfl); (case hr => first | (go_simp; done) | (go_simp; rfl)); intro gb171 hg w19 hbox hb; have n0_ := Aside0.mk (blk_below (g := gb163) (o := .cells #[.int .u8 a2_0, .int .i64 a2_1, .int .u64 a2_2, .string a2_3] 38 (0, 0)) (by (with_reducible repeat (first | refine blk_drewN ?_ _ | refine blk_drew ?_ | refine blk_alloc ?_ _)); exact BK163.out) hb); have n1_ := Aside0.mk (below_step (by repeat (first | (with_reducible first | exact HB.out | apply below_alloc | apply pw_below_drewN | apply below_drew1 | refine below_set ?_ GE163.out) | exact HB.out)) hb); have n2_ := Aside0.mk (hbox); have n3_ := Aside0.mk ((by rw [hg]; exact (below_size (by repeat (first | (with_reducible first | exact HB.out | apply below_alloc | apply pw_below_drewN | apply below_drew1 | refine below_set ?_ GE163.out) | exact HB.out))) : w.heap.size ≤ gb171)); have n4_ := Aside0.mk ((by rw [hg]; exact (below_size (by repeat (first | (with_reducible first | exact HB.out | apply below_alloc | apply pw_below_drewN | apply below_drew1 | refine below_set ?_ GE163.out) | exact HB.out))) : w.heap.size ≤ gb171)); have n5_ := Aside0.mk ((by rw [hg]; exact Nat.ne_of_lt (blk_lt (g := gb163) (o := .cells #[.int .u8 a2_0, .int .i64 a2_1, .int .u64 a2_2, .string a2_3] 38 (0, 0)) (by (with_reducible repeat (first | refine blk_drewN ?_ _ | refine blk_drew ?_ | refine blk_alloc ?_ _)); exact BK163.out)) : gb163 ≠ gb171)); have n6_ := Aside0.mk ((by rw [hg]; exact Nat.ne_of_gt (blk_lt (g := gb163) (o := .cells #[.int .u8 a2_0, .int .i64 a2_1, .int .u64 a2_2, .string a2_3] 38 (0, 0)) (by (with_reducible repeat (first | refine blk_drewN ?_ _ | refine blk_drew ?_ | refine blk_alloc ?_ _)); exact BK163.out)) : gb171 ≠ gb163)); clear BK163; clear HB; have BK163 := n0_; have HB := n1_; have BK171 := n2_; have GW171 := n3_; have GE171 := n4_; have NB163_171 := n5_; have NB171_163 := n6_; clear n0_ n1_ n2_ n3_ n4_ n5_ n6_; clear hb hbox hg; have hnb20 := NB171_163.out; have hnc20 := NB163_171.out; have hcz21_0 : w19.cell? ⟨gb171, 0, none⟩ = some (.int .i64 0) := (blk_cell BK171.out 0).trans rfl; have hcz21_1 : w19.cell? ⟨gb171, 1, none⟩ = some (.bool false) := (blk_cell BK171.out 1).trans rfl; have hcz21_2 : w19.cell? ⟨gb171, 2, none⟩ = some (.int .u8 0) := (blk_cell BK171.out 2).trans rfl; have hcz21_3 : w19.cell? ⟨gb171, 3, none⟩ = some (.bool false) := (blk_cell BK171.out 3).trans rfl; have hcz21_4 : w19.cell? ⟨gb171, 4, none⟩ = some (.bool false) := (blk_cell BK171.out 4).trans rfl; have hcz21_5 : w19.cell? ⟨gb171, 5, none⟩ = some (.int .i64 0) := (blk_cell BK171.out 5).trans rfl; have hfz21_0 := blk_frozen BK171.out 0; have hfz21_1 := blk_frozen BK171.out 1; have hfz21_2 := blk_frozen BK171.out 2; have hfz21_3 := blk_frozen BK171.out 3; have hfz21_4 := blk_frozen BK171.out 4; have hfz21_5 := blk_frozen BK171.out 5; have hcz22_0 : w19.cell? ⟨gb163, 0, none⟩ = some (.int .u8 a2_0) := (blk_cell BK163.out 0).trans rfl; have hcz22_1 : w19.cell? ⟨gb163, 1, none⟩ = some (.int .i64 a2_1) := (blk_cell BK163.out 1).trans rfl; have hcz22_2 : w19.cell? ⟨gb163, 2, none⟩ = some (.int .u64 a2_2) := (blk_cell BK163.out 2).trans rfl; have hcz22_3 : w19.cell? ⟨gb163, 3, none⟩ = some (.string a2_3) := (blk_cell BK163.out 3).trans rfl; have hfz22_0 := blk_frozen BK163.out 0; have hfz22_1 := blk_frozen BK163.out 1; have hfz22_2 := blk_frozen BK163.out 2; have hfz22_3 := blk_frozen BK163.out 3) | (go_at_call 54; (with_reducible refine (rubricref03_May.calls a2_0 a2_1 a2_2 a2_3 false _ A6.out).mono ?_); rintro e w23 ⟨rfl, hb⟩; have n0_ := Aside0.mk (blk_below (g := gb163) (o := .cells #[.int .u8 a2_0, .int .i64 a2_1, .int .u64 a2_2, .string a2_3] 38 (0, 0)) (by (with_reducible repeat (first | refine blk_drewN ?_ _ | refine blk_drew ?_ | refine blk_alloc ?_ _)); refine blk_far ?_ NB163_171.out _; (with_reducible repeat (first | refine blk_drewN ?_ _ | refine blk_drew ?_ | refine blk_alloc ?_ _)); refine blk_far ?_ NB163_171.out _; (with_reducible repeat (first | refine blk_drewN ?_ _ | refine blk_drew ?_ | refine blk_alloc ?_ _)); refine blk_far ?_ NB163_171.out _; (with_reducible repeat (first | refine blk_drewN ?_ _ | refine blk_drew ?_ | refine blk_alloc ?_ _)); refine blk_far ?_ NB163_171.out _; (with_reducible repeat (first | refine blk_drewN ?_ _ | refine blk_drew ?_ | refine blk_alloc ?_ _)); refine blk_far ?_ NB163_171.out _; (with_reducible repeat (first | refine blk_drewN ?_ _ | refine blk_drew ?_ | refine blk_alloc ?_ _)); refine blk_far ?_ NB163_171.out _; (with_reducible repeat (first | refine blk_drewN ?_ _ | refine blk_drew ?_ | refine blk_alloc ?_ _)); exact BK163.out) hb); have n1_ := Aside0.mk (blk_below (g := gb171) (o := .cells #[.int .i64 t164, .bool t165, .int .u8 t166, .bool t167, .bool t168, .int .i64 t169] 64 (0, 0)) (by (with_reducible repeat (first | refine blk_drewN ?_ _ | refine blk_drew ?_ | refine blk_alloc ?_ _)); refine blk_put (cs := #[.int .i64 t164, .bool t165, .int .u8 t166, .bool t167, .bool t168, .int .i64 0]) ?_ 5 _ rfl; (with_reducible repeat (first | refine blk_drewN ?_ _ | refine blk_drew ?_ | refine blk_alloc ?_ _)); refine blk_put (cs := #[.int .i64 t164, .bool t165, .int .u8 t166, .bool t167, .bool false, .int .i64 0]) ?_ 4 _ rfl; (with_reducible repeat (first | refine blk_drewN ?_ _ | refine blk_drew ?_ | refine blk_alloc ?_ _)); refine blk_put (cs := #[.int .i64 t164, .bool t165, .int .u8 t166, .bool false, .bool false, .int .i64 0]) ?_ 3 _ rfl; (with_reducible repeat (first | refine blk_drewN ?_ _ | refine blk_drew ?_ | refine blk_alloc ?_ _)); refine blk_put (cs := #[.int .i64 t164, .bool t165, .int .u8 0, .bool false, .bool false, .int .i64 0]) ?_ 2 _ rfl; (with_reducible repeat (first | refine blk_drewN ?_ _ | refine blk_drew ?_ | refine blk_alloc ?_ _)); refine blk_put (cs := #[.int .i64 t164, .bool false, .int .u8 0, .bool false, .bool false, .int .i64 0]) ?_ 1 _ rfl; (with_reducible repeat (first | refine blk_drewN ?_ _ | refine blk_drew ?_ | refine blk_alloc ?_ _)); refine blk_put (cs := #[.int .i64 0, .bool false, .int .u8 0, .bool false, .bool false, .int .i64 0]) ?_ 0 _ rfl; (with_reducible repeat (first | refine blk_drewN ?_ _ | refine blk_drew ?_ | refine blk_alloc ?_ _)); exact BK171.out) hb); have n2_ := Aside0.mk (below_step (by repeat (first | (with_reducible first | exact HB.out | apply below_alloc | apply pw_below_drewN | apply below_drew1 | refine below_set ?_ GE163.out | refine below_set ?_ GE171.out) | exact HB.out)) hb); clear BK163; clear BK171; clear HB; have BK163 := n0_; have BK171 := n1_; have HB := n2_; clear n0_ n1_ n2_; (try clear hb); (try clear hb2); (try clear hk); (try clear hi)))
   go_ret
   exact ⟨by first | rfl | (simp [errW_none, errW_some] <;> rfl) | (simp [*, errW_none, errW_some] <;> rfl), by repeat (first | (with_reducible first | exact HB.out | apply below_alloc | apply pw_below_drewN | apply below_drew1 | refine below_set ?_ GE163.out | refine below_set ?_ GE171.out) | exact HB.out)⟩
 ·replace c5 := Bool.eq_false_iff.mpr c5
  subst c5
  have H1 : (some false) = some r := by rw [if_neg (show ¬ (false = true) by decide)] at H; exact H
  clear H
  have H := H1
  clear H1
  obtain rfl := Option.some.inj H
  go_enter Try.func55, Try.ntmps55
  go_wp2_with (first | ((with_reducible refine gate_dst (N := 5) rfl ?_); refine box_event ?hg (N := 5) ?hd (cs := #[.int .u8 a2_0, .int .i64 a2_1, .int .u64 a2_2, .string a2_3]) (t := 38) ?hr ?_; (case hd => rfl); (case hg => rfl); (case hr => first | (go_simp; done) | (go_simp; rfl)); intro gb163 hg w24 hbox hb; have n0_ := Aside0.mk (below_step (by repeat (first | (with_reducible first | exact HB.out | apply below_alloc | apply pw_below_drewN | apply below_drew1) | exact HB.out | exact Below.refl _ _)) hb); have n1_ := Aside0.mk (hbox); have n2_ := Aside0.mk ((by rw [hg]; exact (below_size (by repeat (first | (with_reducible first | exact HB.out | apply below_alloc | apply pw_below_drewN | apply below_drew1) | exact HB.out | exact Below.refl _ _))) : w.heap.size ≤ gb163)); have n3_ := Aside0.mk ((by rw [hg]; exact (below_size (by repeat (first | (with_reducible first | exact HB.out | apply below_alloc | apply pw_below_drewN | apply below_drew1) | exact HB.out | exact Below.refl _ _))) : w.heap.size ≤ gb163)); clear HB; have HB := n0_; have BK163 := n1_; have GW163 := n2_; have GE163 := n3_; clear n0_ n1_ n2_ n3_; clear hb hbox hg) | ((with_reducible refine gate_callee (f := 57) rfl ?_); refine goesL_ (some 12) rfl rfl Try.func57 (by kernel_rfl) rfl #[.slice A0 l0.length c0, .int .i64 a1] rfl (by (try simp only [List.map_toArray, List.map_cons, List.map_nil]); first | done | rfl | (simp only [List.length_drop, List.length_take]; rfl)) ?_; (with_reducible refine (rubricref04_Find.calls k _ _ l0 a1 t164 t165 t166 t167 t168 t169 false _ ?side1 ?side2 A4.out).mono ?_); (case side1 => repeat (first | exact (Kd.C_below HR0.out HB.out) | (with_reducible refine Kd.C_alloc ?_ _) | (with_reducible refine Kd.C_drewN ?_ _) | (with_reducible refine Kd.C_drew ?_))); (case side2 => exact HC0.out); rintro e w25 ⟨rfl, hb⟩; refine ⟨_, rfl, ?_⟩; have n0_ := Aside0.mk (blk_below (g := gb163) (o := .cells #[.int .u8 a2_0, .int .i64 a2_1, .int .u64 a2_2, .string a2_3] 38 (0, 0)) (by (with_reducible repeat (first | refine blk_drewN ?_ _ | refine blk_drew ?_ | refine blk_alloc ?_ _)); exact BK163.out) hb); have n1_ := Aside0.mk (below_step (by repeat (first | (with_reducible first | exact HB.out | apply below_alloc | apply pw_below_drewN | apply below_drew1 | refine below_set ?_ GE163.out) | exact HB.out)) hb); clear BK163; clear HB; have BK163 := n0_; have HB := n1_; clear n0_ n1_; (try clear hb); (try clear hb2); (try clear hk); (try clear hi)) | ((with_reducible refine gate_dst (N := 7) rfl ?_); refine box_event ?hg (N := 7) ?hd (cs := #[.int .i64 0, .bool false, .int .u8 0, .bool false, .bool false, .int .i64 0]) (t := 64) ?hr ?_; (case hd => rfl); (case hg => rfl); (case hr => first | (go_simp; done) | (go_simp; rfl)); intro gb171 hg w26 hbox hb; have n0_ := Aside0.mk (blk_below (g := gb163) (o := .cells #[.int .u8 a2_0, .int .i64 a2_1, .int .u64 a2_2, .string a2_3] 38 (0, 0)) (by (with_reducible repeat (first | refine blk_drewN ?_ _ | refine blk_drew ?_ | refine blk_alloc ?_ _)); exact BK163.out) hb); have n1_ := Aside0.mk (below_step (by repeat (first | (with_reducible first | exact HB.out | apply below_alloc | apply pw_below_drewN | apply below_drew1 | refine below_set ?_ GE163.out) | exact HB.out)) hb); have n2_ := Aside0.mk (hbox); have n3_ := Aside0.mk ((by rw [hg]; exact (below_size (by repeat (first | (with_reducible first | exact HB.out | apply below_alloc | apply pw_below_drewN | apply below_drew1 | refine below_set ?_ GE163.out) | exact HB.out))) : w.heap.size ≤ gb171)); have n4_ := Aside0.mk ((by rw [hg]; exact (below_size (by repeat (first | (with_reducible first | exact HB.out | apply below_alloc | apply pw_below_drewN | apply below_drew1 | refine below_set ?_ GE163.out) | exact HB.out))) : w.heap.size ≤ gb171)); have n5_ := Aside0.mk ((by rw [hg]; exact Nat.ne_of_lt (blk_lt (g := gb163) (o := .cells #[.int .u8 a2_0, .int .i64 a2_1, .int .u64 a2_2, .string a2_3] 38 (0, 0)) (by (with_reducible repeat (first | refine blk_drewN ?_ _ | refine blk_drew ?_ | refine blk_alloc ?_ _)); exact BK163.out)) : gb163 ≠ gb171)); have n6_ := Aside0.mk ((by rw [hg]; exact Nat.ne_of_gt (blk_lt (g := gb163) (o := .cells #[.int .u8 a2_0, .int .i64 a2_1, .int .u64 a2_2, .string a2_3] 38 (0, 0)) (by (with_reducible repeat (first | refine blk_drewN ?_ _ | refine blk_drew ?_ | refine blk_alloc ?_ _)); exact BK163.out)) : gb171 ≠ gb163)); clear BK163; clear HB; have BK163 := n0_; have HB := n1_; have BK171 := n2_; have GW171 := n3_; have GE171 := n4_; have NB163_171 := n5_; have NB171_163 := n6_; clear n0_ n1_ n2_ n3_ n4_ n5_ n6_; clear hb hbox hg; have hnb27 := NB171_163.out; have hnc27 := NB163_171.out; have hcz28_0 : w26.cell? ⟨gb171, 0, none⟩ = some (.int .i64 0) := (blk_cell BK171.out 0).trans rfl; have hcz28_1 : w26.cell? ⟨gb171, 1, none⟩ = some (.bool false) := (blk_cell BK171.out 1).trans rfl; have hcz28_2 : w26.cell? ⟨gb171, 2, none⟩ = some (.int .u8 0) := (blk_cell BK171.out 2).trans rfl; have hcz28_3 : w26.cell? ⟨gb171, 3, none⟩ = some (.bool false) := (blk_cell BK171.out 3).trans rfl; have hcz28_4 : w26.cell? ⟨gb171, 4, none⟩ = some (.bool false) := (blk_cell BK171.out 4).trans rfl; have hcz28_5 : w26.cell? ⟨gb171, 5, none⟩ = some (.int .i64 0) := (blk_cell BK171.out 5).trans rfl; have hfz28_0 := blk_frozen BK171.out 0; have hfz28_1 := blk_frozen BK171.out 1; have hfz28_2 := blk_frozen BK171.out 2; have hfz28_3 := blk_frozen BK171.out 3; have hfz28_4 := blk_frozen BK171.out 4; have hfz28_5 := blk_frozen BK171.out 5))
  go_ret
  exact ⟨by first | rfl | (simp [errW_none, errW_some] <;> rfl) | (simp [*, errW_none, errW_some] <;> rfl), by repeat (first | (with_reducible first | exact HB.out | apply below_alloc | apply pw_below_drewN | apply below_drew1 | refine below_set ?_ GE163.out | refine below_set ?_ GE171.out) | exact HB.out)⟩
/-! ### rubricref05_May: function 42 -/
/-! ### rubricref06_Rising: function 56 -/
def rubricref06_Rising.l0 : Nat → List (S42) → Int → Option (Bool)
 | 0, _, _ => none
 | k + 1, x0, x3 => if x3 < (x0.length : Int) then (if 0 ≤ (wrap64 (x3 - 1)) then (if (wrap64 (x3 - 1)) < (x0.length : Int) then (if 0 ≤ x3 then (if ((rd_T42 x0 (wrap64 (x3 - 1))).f0) ≥ ((rd_T42 x0 x3).f0) then (some false) else (rubricref06_Rising.l0 k x0 (wrap64 (x3 + 1)))) else (none)) else (none)) else (none)) else (some true)
def rubricref06_Rising.f (k : Nat) (l0 : List (S42)) : Option (Bool) := rubricref06_Rising.l0 k l0 1
set_option maxHeartbeats 8000000 in
set_option maxRecDepth 100000 in
theorem rubricref06_Rising.calls (k : Nat) (A0 : Option Addr) (c0 : Nat) (l0 : List (S42)) (r : Bool) (w : World) (hr0 : Kd.C k42 w A0 l0.length l0) (hc0 : l0.length ≤ c0) (h : rubricref06_Rising.f k l0 = some r) :
  Calls Try.prog 56 #[.slice A0 l0.length c0] w fun e w' => e = .returned (.bool r) ∧ Drawn0 w w' := by
 have HR0 := Aside0.mk hr0
 have HC0 := Aside0.mk hc0
 clear hr0 hc0
 have H : (rubricref06_Rising.l0 k l0 1) = some r := h
 clear h
 have H' := Aside0.mk H
 clear H
 go_enter Try.func56, Try.ntmps56
 go_wp2
 repeat (go_quiet (fail); try go_wp2)
 go_loopg [3] k (fun kq v3 w' => ∃ (x3_1 : Int), v3 = .int .i64 x3_1 ∧ Aside0 (rubricref06_Rising.l0 kq l0 x3_1 = some r) ∧ Aside0 (kq ≤ k) ∧ Drawn0 w w')
 case atStart => exact ⟨(1), (by first | rfl | (simp; done) | (simp [*]; done)), H', ⟨Nat.le_refl _⟩, by repeat (first | exact Drawn0.refl _ | apply Drawn0.step)⟩
 case round =>
  clear H'
  obtain ⟨x3_1, rfl, HA, HK1, ⟨m1, rfl⟩⟩ := hrel
  cases gk with
  | zero => exact absurd HA.out (by simp [rubricref06_Rising.l0])
  | succ k1 =>
   have H := HA.out
   clear HA
   simp only [rubricref06_Rising.l0] at H
   by_cases c2 : x3_1 < (l0.length : Int)
   ·rw [if_pos c2] at H
    have c2b0 : decide (x3_1 < (l0.length : Int)) = true := decide_eq_true c2
    clear c2
    obtain ⟨ji3, hji3⟩ : ∃ j_ : Int, (wrap64 (x3_1 - 1)) = j_ := ⟨_, rfl⟩
    replace H : (if 0 ≤ (ji3) then (if (ji3) < (l0.length : Int) then (if 0 ≤ x3_1 then (if ((rd_T42 l0 (ji3)).f0) ≥ ((rd_T42 l0 x3_1).f0) then (some false) else (rubricref06_Rising.l0 k1 l0 (wrap64 (x3_1 + 1)))) else (none)) else (none)) else (none)) = some r := by first | (rw [hji3] at H; exact H) | (simp only [hji3] at H ⊢; exact H)
    have hji3w : (IntKind.i64.wrap (x3_1 - 1)) = ji3 := (i64_w _).trans hji3
    by_cases c4 : 0 ≤ (ji3)
    ·rw [if_pos c4] at H
     have c4b0 : decide (0 ≤ (ji3)) = true := decide_eq_true c4
     clear c4
     by_cases c5 : (ji3) < (l0.length : Int)
     ·rw [if_pos c5] at H
      have c5b0 : decide ((ji3) < (l0.length : Int)) = true := decide_eq_true c5
      clear c5
      by_cases c6 : 0 ≤ x3_1
      ·rw [if_pos c6] at H
       have c6b0 : decide (0 ≤ x3_1) = true := decide_eq_true c6
       clear c6
       by_cases c7 : ((rd_T42 l0 (ji3)).f0) ≥ ((rd_T42 l0 x3_1).f0)
       ·rw [if_pos c7] at H
        have c7b0 : decide (((rd_T42 l0 x3_1).f0) ≤ ((rd_T42 l0 (ji3)).f0)) = true := decide_eq_true c7
        clear c7
        obtain rfl := Option.some.inj H
        have p179 : 0 ≤ ((ji3) : Int) := of_decide_eq_true (by first | (with_reducible assumption) | assumption)
        have q179 : (ji3) < (l0.length : Int) := of_decide_eq_true (by first | (with_reducible assumption) | assumption)
        obtain ⟨ad179, e179, hx179_0, hx179_1, hx179_2, hx179_3, hx179_4, hx179_5⟩ := at_T42 HR0.out (ji3) p179 q179
        cases e179
        replace p179 := eq_true p179
        replace q179 := eq_true q179
        have p180 : 0 ≤ (x3_1 : Int) := of_decide_eq_true (by first | (with_reducible assumption) | assumption)
        have q180 : x3_1 < (l0.length : Int) := of_decide_eq_true (by first | (with_reducible assumption) | assumption)
        obtain ⟨ad180, e180, hx180_0, hx180_1, hx180_2, hx180_3, hx180_4, hx180_5⟩ := at_T42 HR0.out x3_1 p180 q180
        obtain rfl : ad179 = ad180 := (by injection e180)
        replace p180 := eq_true p180
        replace q180 := eq_true q180
        go_wp2
        repeat (go_quiet (fail); try go_wp2)
        go_ret
        exact ⟨by first | rfl | (simp; done) | (simp only [← hji3] <;> (first | rfl | simp)) | (simp [*]; done), by repeat (first | exact Drawn0.refl _ | apply Drawn0.step)⟩
       ·rw [if_neg c7] at H
        have c7b0 : decide (((rd_T42 l0 x3_1).f0) ≤ ((rd_T42 l0 (ji3)).f0)) = false := decide_eq_false c7
        clear c7
        have H' := Aside0.mk H
        clear H
        have p179 : 0 ≤ ((ji3) : Int) := of_decide_eq_true (by first | (with_reducible assumption) | assumption)
        have q179 : (ji3) < (l0.length : Int) := of_decide_eq_true (by first | (with_reducible assumption) | assumption)
        obtain ⟨ad179, e179, hx179_0, hx179_1, hx179_2, hx179_3, hx179_4, hx179_5⟩ := at_T42 HR0.out (ji3) p179 q179
        cases e179
        replace p179 := eq_true p179
        replace q179 := eq_true q179
        have p180 : 0 ≤ (x3_1 : Int) := of_decide_eq_true (by first | (with_reducible assumption) | assumption)
        have q180 : x3_1 < (l0.length : Int) := of_decide_eq_true (by first | (with_reducible assumption) | assumption)
        obtain ⟨ad180, e180, hx180_0, hx180_1, hx180_2, hx180_3, hx180_4, hx180_5⟩ := at_T42 HR0.out x3_1 p180 q180
        obtain rfl : ad179 = ad180 := (by injection e180)
        replace p180 := eq_true p180
        replace q180 := eq_true q180
        go_wp2
        repeat (go_quiet (fail); try go_wp2)
        go_roundg k1
        case measure => have := HK1.out; omega
        case rel => exact ⟨(wrap64 (x3_1 + 1)), (by first | rfl | (simp; done) | (simp [*]; done)), H', ⟨by have := HK1.out; omega⟩, by repeat (first | exact Drawn0.refl _ | apply Drawn0.step)⟩
      ·rw [if_neg c6] at H
       exact absurd H (by simp)
     ·rw [if_neg c5] at H
      exact absurd H (by simp)
    ·rw [if_neg c4] at H
     exact absurd H (by simp)
   ·rw [if_neg c2] at H
    have c2b0 : decide (x3_1 < (l0.length : Int)) = false := decide_eq_false c2
    clear c2
    obtain rfl := Option.some.inj H
    go_wp2
    repeat (go_quiet (fail); try go_wp2)
    go_ret
    exact ⟨by first | rfl | (simp; done) | (simp [*]; done), by repeat (first | exact Drawn0.refl _ | apply Drawn0.step)⟩
end Go.Proofs.Ytmjeoknamoegpaa.P
namespace Go.Proofs.Ytmjeoknamoegpaa.P
open Go.RowKit Go.Proofs.YtmjeoknamoegpaaW.PrintWords Go.Proofs.YtmjeoknamoegpaaW.PrintLast Go.Proofs.YtmjeoknamoegpaaW.PrintMore
attribute [local go_sem] max2_int min2_int max_two min_two max_three min_three max_four min_four   -- for this text's walks alone
set_option linter.unusedVariables false
set_option linter.unusedSimpArgs false
/-! ### rubricref15_Takes: function 44 -/
def rubricref15_Takes.l0 : Nat → List (S30) → Int → Int → Option (Int)
 | 0, _, _, _ => none
 | k + 1, x0, x3, x4 => if x4 < (x0.length : Int) then (if 0 ≤ x4 then (if ((rd_T30 x0 x4).f0) = 2 then (rubricref15_Takes.l0 k x0 x3 (wrap64 (x4 + 1))) else (rubricref15_Takes.l0 k x0 (wrap64 (x3 + ((rd_T30 x0 x4).f1))) (wrap64 (x4 + 1)))) else (none)) else (some x3)
def rubricref15_Takes.f (k : Nat) (l0 : List (S30)) : Option (Int) := rubricref15_Takes.l0 k l0 0 0
set_option maxHeartbeats 8000000 in
set_option maxRecDepth 100000 in
theorem rubricref15_Takes.calls (k : Nat) (A0 : Option Addr) (c0 : Nat) (l0 : List (S30)) (r : Int) (w : World) (hr0 : Kd.C k30 w A0 l0.length l0) (hc0 : l0.length ≤ c0) (h : rubricref15_Takes.f k l0 = some r) :
  Calls Try.prog 44 #[.slice A0 l0.length c0] w fun e w' => e = .returned (.int .i64 r) ∧ Drawn0 w w' := by
 have HR0 := Aside0.mk hr0
 have HC0 := Aside0.mk hc0
 clear hr0 hc0
 have H : (rubricref15_Takes.l0 k l0 0 0) = some r := h
 clear h
 have H' := Aside0.mk H
 clear H
 go_enter Try.func44, Try.ntmps44
 go_wp2
 go_loopg [3, 4] k (fun kq v3 v4 w' => ∃ (x3_1 : Int) (x4_1 : Int), v3 = .int .i64 x3_1 ∧ v4 = .int .i64 x4_1 ∧ Aside0 (rubricref15_Takes.l0 kq l0 x3_1 x4_1 = some r) ∧ Aside0 (kq ≤ k) ∧ Drawn0 w w')
 case atStart => exact ⟨(0), (0), (by first | rfl | (simp; done) | (simp [*]; done)), (by first | rfl | (simp; done) | (simp [*]; done)), H', ⟨Nat.le_refl _⟩, by repeat (first | exact Drawn0.refl _ | apply Drawn0.step)⟩
 case round =>
  clear H'
  obtain ⟨x3_1, x4_1, rfl, rfl, HA, HK1, ⟨m1, rfl⟩⟩ := hrel
  cases gk with
  | zero => exact absurd HA.out (by simp [rubricref15_Takes.l0])
  | succ k1 =>
   have H := HA.out
   clear HA
   simp only [rubricref15_Takes.l0] at H
   by_cases c2 : x4_1 < (l0.length : Int)
   ·rw [if_pos c2] at H
    have c2b0 : decide (x4_1 < (l0.length : Int)) = true := decide_eq_true c2
    clear c2
    by_cases c3 : 0 ≤ x4_1
    ·rw [if_pos c3] at H
     have c3b0 : decide (0 ≤ x4_1) = true := decide_eq_true c3
     clear c3
     by_cases c4 : ((rd_T30 l0 x4_1).f0) = 2
     ·rw [if_pos c4] at H
      have c4b0 : (((rd_T30 l0 x4_1).f0) == 2) = true := beq_iff_eq.mpr c4
      have c4b1 : (((rd_T30 l0 x4_1).f0) != 2) = false := bne_eq_false_iff_eq.mpr c4
      clear c4
      have H' := Aside0.mk H
      clear H
      have p203 : 0 ≤ (x4_1 : Int) := of_decide_eq_true (by first | (with_reducible assumption) | assumption)
      have q203 : x4_1 < (l0.length : Int) := of_decide_eq_true (by first | (with_reducible assumption) | assumption)
      obtain ⟨ad203, A203_2, c203_2, A203_3, c203_3, A203_4, c203_4, e203, hx203_0, hx203_1, hx203_2, hx203_3, hx203_4, hl203_2, hi203_2, hl203_3, hi203_3, hl203_4, hi203_4⟩ := at_T30 HR0.out x4_1 p203 q203
      cases e203
      have HR203_2 := Aside0.mk hi203_2
      have HC203_2 := Aside0.mk hl203_2
      clear hi203_2 hl203_2
      have HR203_3 := Aside0.mk hi203_3
      have HC203_3 := Aside0.mk hl203_3
      clear hi203_3 hl203_3
      have HR203_4 := Aside0.mk hi203_4
      have HC203_4 := Aside0.mk hl203_4
      clear hi203_4 hl203_4
      replace p203 := eq_true p203
      replace q203 := eq_true q203
      go_wp2
      go_roundg k1
      case measure => have := HK1.out; omega
      case rel => exact ⟨(x3_1), (wrap64 (x4_1 + 1)), (by first | rfl | (simp; done) | (simp [*]; done)), (by first | rfl | (simp; done) | (simp [*]; done)), H', ⟨by have := HK1.out; omega⟩, by repeat (first | exact Drawn0.refl _ | apply Drawn0.step)⟩
     ·rw [if_neg c4] at H
      have c4b0 : (((rd_T30 l0 x4_1).f0) == 2) = false := beq_eq_false_iff_ne.mpr c4
      have c4b1 : (((rd_T30 l0 x4_1).f0) != 2) = true := bne_iff_ne.mpr c4
      have H' := Aside0.mk H
      clear H
      have p203 : 0 ≤ (x4_1 : Int) := of_decide_eq_true (by first | (with_reducible assumption) | assumption)
      have q203 : x4_1 < (l0.length : Int) := of_decide_eq_true (by first | (with_reducible assumption) | assumption)
      obtain ⟨ad203, A203_2, c203_2, A203_3, c203_3, A203_4, c203_4, e203, hx203_0, hx203_1, hx203_2, hx203_3, hx203_4, hl203_2, hi203_2, hl203_3, hi203_3, hl203_4, hi203_4⟩ := at_T30 HR0.out x4_1 p203 q203
      cases e203
      have HR203_2 := Aside0.mk hi203_2
      have HC203_2 := Aside0.mk hl203_2
      clear hi203_2 hl203_2
      have HR203_3 := Aside0.mk hi203_3
      have HC203_3 := Aside0.mk hl203_3
      clear hi203_3 hl203_3
      have HR203_4 := Aside0.mk hi203_4
      have HC203_4 := Aside0.mk hl203_4
      clear hi203_4 hl203_4
      replace p203 := eq_true p203
      replace q203 := eq_true q203
      have p204 : 0 ≤ (x4_1 : Int) := of_decide_eq_true (by first | (with_reducible assumption) | assumption)
      have q204 : x4_1 < (l0.length : Int) := of_decide_eq_true (by first | (with_reducible assumption) | assumption)
      obtain ⟨ad204, A204_2, c204_2, A204_3, c204_3, A204_4, c204_4, e204, hx204_0, hx204_1, hx204_2, hx204_3, hx204_4, hl204_2, hi204_2, hl204_3, hi204_3, hl204_4, hi204_4⟩ := at_T30 HR0.out x4_1 p204 q204
      obtain rfl : ad203 = ad204 := (by injection e204)
      have HR204_2 := Aside0.mk hi204_2
      have HC204_2 := Aside0.mk hl204_2
      clear hi204_2 hl204_2
      have HR204_3 := Aside0.mk hi204_3
      have HC204_3 := Aside0.mk hl204_3
      clear hi204_3 hl204_3
      have HR204_4 := Aside0.mk hi204_4
      have HC204_4 := Aside0.mk hl204_4
      clear hi204_4 hl204_4
      replace p204 := eq_true p204
      replace q204 := eq_true q204
      have ea_ := Option.some.inj (hx203_2.symm.trans hx204_2)
      injection ea_ with ea_ en_ ec_
      subst ea_
      subst ec_
      clear en_
      have ea_ := Option.some.inj (hx203_3.symm.trans hx204_3)
      injection ea_ with ea_ en_ ec_
      subst ea_
      subst ec_
      clear en_
      have ea_ := Option.some.inj (hx203_4.symm.trans hx204_4)
      injection ea_ with ea_ en_ ec_
      subst ea_
      subst ec_
      clear en_
      go_wp2
      go_roundg k1
      case measure => have := HK1.out; omega
      case rel => exact ⟨(wrap64 (x3_1 + ((rd_T30 l0 x4_1).f1))), (wrap64 (x4_1 + 1)), (by first | rfl | (simp; done) | (simp [*]; done)), (by first | rfl | (simp; done) | (simp [*]; done)), H', ⟨by have := HK1.out; omega⟩, by repeat (first | exact Drawn0.refl _ | apply Drawn0.step)⟩
    ·rw [if_neg c3] at H
     exact absurd H (by simp)
   ·rw [if_neg c2] at H
    have c2b0 : decide (x4_1 < (l0.length : Int)) = false := decide_eq_false c2
    clear c2
    obtain rfl := Option.some.inj H
    go_wp2
    go_ret
    exact ⟨by first | rfl | (simp; done) | (simp [*]; done), by repeat (first | exact Drawn0.refl _ | apply Drawn0.step)⟩
/-! ### rubricref15_Len: function 58 -/
def rubricref15_Len.f (a0_0 : Int) (a0_1 : Int) (l0_2 : List Int) (l0_3 : List (S40)) (l0_4 : List (S42)) : Option (Int) := if a0_0 = 2 then (some (l0_2.length : Int)) else (some a0_1)
set_option maxHeartbeats 8000000 in
set_option maxRecDepth 100000 in
theorem rubricref15_Len.calls (a0_0 : Int) (a0_1 : Int) (A0_2 : Option Addr) (c0_2 : Nat) (l0_2 : List Int) (A0_3 : Option Addr) (c0_3 : Nat) (l0_3 : List (S40)) (A0_4 : Option Addr) (c0_4 : Nat) (l0_4 : List (S42)) (r : Int) (w : World) (hr0_2 : Kd.C (Kd.int .i32) w A0_2 l0_2.length l0_2) (hc0_2 : l0_2.length ≤ c0_2) (hr0_3 : Kd.C k40 w A0_3 l0_3.length l0_3) (hc0_3 : l0_3.length ≤ c0_3) (hr0_4 : Kd.C k42 w A0_4 l0_4.length l0_4) (hc0_4 : l0_4.length ≤ c0_4) (h : rubricref15_Len.f a0_0 a0_1 l0_2 l0_3 l0_4 = some r) :
  Calls Try.prog 58 #[.agg #[.int .u8 a0_0, .int .i64 a0_1, .slice A0_2 l0_2.length c0_2, .slice A0_3 l0_3.length c0_3, .slice A0_4 l0_4.length c0_4]] w fun e w' => e = .returned (.int .i64 r) ∧ Below w.heap.size w w' := by
 have hu30 := Try.underlying30
 have HR0_2 := Aside0.mk hr0_2
 have HC0_2 := Aside0.mk hc0_2
 clear hr0_2 hc0_2
 have HR0_3 := Aside0.mk hr0_3
 have HC0_3 := Aside0.mk hc0_3
 clear hr0_3 hc0_3
 have HR0_4 := Aside0.mk hr0_4
 have HC0_4 := Aside0.mk hc0_4
 clear hr0_4 hc0_4
 have HB := Aside0.mk (Below.refl w.heap.size w)
 have H : (if a0_0 = 2 then (some (l0_2.length : Int)) else (some a0_1)) = some r := h
 clear h
 by_cases c2 : a0_0 = 2
 ·rw [if_pos c2] at H
  have c2b0 : (a0_0 == 2) = true := beq_iff_eq.mpr c2
  have c2b1 : (a0_0 != 2) = false := bne_eq_false_iff_eq.mpr c2
  clear c2
  obtain rfl := Option.some.inj H
  go_enter Try.func58, Try.ntmps58
  go_wp2_with (first | ((with_reducible refine gate_dst (N := 1) rfl ?_); refine box_event ?hg (N := 1) ?hd (cs := #[.int .u8 a0_0, .int .i64 a0_1, .slice A0_2 l0_2.length c0_2, .slice A0_3 l0_3.length c0_3, .slice A0_4 l0_4.length c0_4]) (t := 30) ?hr ?_; (case hd => rfl); (case hg => rfl); (case hr => first | (go_simp; done) | (go_simp; rfl)); intro gb205 hg w3 hbox hb; have n0_ := Aside0.mk (below_step (by repeat (first | (with_reducible first | exact HB.out | apply below_alloc | apply pw_below_drewN | apply below_drew1) | exact HB.out | exact Below.refl _ _)) hb); have n1_ := Aside0.mk (hbox); have n2_ := Aside0.mk ((by rw [hg]; exact (below_size (by repeat (first | (with_reducible first | exact HB.out | apply below_alloc | apply pw_below_drewN | apply below_drew1) | exact HB.out | exact Below.refl _ _))) : w.heap.size ≤ gb205)); have n3_ := Aside0.mk ((by rw [hg]; exact (below_size (by repeat (first | (with_reducible first | exact HB.out | apply below_alloc | apply pw_below_drewN | apply below_drew1) | exact HB.out | exact Below.refl _ _))) : w.heap.size ≤ gb205)); clear HB; have HB := n0_; have BK205 := n1_; have GW205 := n2_; have GE205 := n3_; clear n0_ n1_ n2_ n3_; clear hb hbox hg; have hcz4_0 : w3.cell? ⟨gb205, 0, none⟩ = some (.int .u8 a0_0) := (blk_cell BK205.out 0).trans rfl; have hcz4_1 : w3.cell? ⟨gb205, 1, none⟩ = some (.int .i64 a0_1) := (blk_cell BK205.out 1).trans rfl; have hcz4_2 : w3.cell? ⟨gb205, 2, none⟩ = some (.slice A0_2 l0_2.length c0_2) := (blk_cell BK205.out 2).trans rfl; have hcz4_3 : w3.cell? ⟨gb205, 3, none⟩ = some (.slice A0_3 l0_3.length c0_3) := (blk_cell BK205.out 3).trans rfl; have hcz4_4 : w3.cell? ⟨gb205, 4, none⟩ = some (.slice A0_4 l0_4.length c0_4) := (blk_cell BK205.out 4).trans rfl; have hfz4_0 := blk_frozen BK205.out 0; have hfz4_1 := blk_frozen BK205.out 1; have hfz4_2 := blk_frozen BK205.out 2; have hfz4_3 := blk_frozen BK205.out 3; have hfz4_4 := blk_frozen BK205.out 4))
  go_ret
  exact ⟨by first | rfl | (simp [errW_none, errW_some] <;> rfl) | (simp [*, errW_none, errW_some] <;> rfl), by repeat (first | (with_reducible first | exact HB.out | apply below_alloc | apply pw_below_drewN | apply below_drew1 | refine below_set ?_ GE205.out) | exact HB.out)⟩
 ·rw [if_neg c2] at H
  have c2b0 : (a0_0 == 2) = false := beq_eq_false_iff_ne.mpr c2
  have c2b1 : (a0_0 != 2) = true := bne_iff_ne.mpr c2
  obtain rfl := Option.some.inj H
  go_enter Try.func58, Try.ntmps58
  go_wp2_with (first | ((with_reducible refine gate_dst (N := 1) rfl ?_); refine box_event ?hg (N := 1) ?hd (cs := #[.int .u8 a0_0, .int .i64 a0_1, .slice A0_2 l0_2.length c0_2, .slice A0_3 l0_3.length c0_3, .slice A0_4 l0_4.length c0_4]) (t := 30) ?hr ?_; (case hd => rfl); (case hg => rfl); (case hr => first | (go_simp; done) | (go_simp; rfl)); intro gb205 hg w5 hbox hb; have n0_ := Aside0.mk (below_step (by repeat (first | (with_reducible first | exact HB.out | apply below_alloc | apply pw_below_drewN | apply below_drew1) | exact HB.out | exact Below.refl _ _)) hb); have n1_ := Aside0.mk (hbox); have n2_ := Aside0.mk ((by rw [hg]; exact (below_size (by repeat (first | (with_reducible first | exact HB.out | apply below_alloc | apply pw_below_drewN | apply below_drew1) | exact HB.out | exact Below.refl _ _))) : w.heap.size ≤ gb205)); have n3_ := Aside0.mk ((by rw [hg]; exact (below_size (by repeat (first | (with_reducible first | exact HB.out | apply below_alloc | apply pw_below_drewN | apply below_drew1) | exact HB.out | exact Below.refl _ _))) : w.heap.size ≤ gb205)); clear HB; have HB := n0_; have BK205 := n1_; have GW205 := n2_; have GE205 := n3_; clear n0_ n1_ n2_ n3_; clear hb hbox hg; have hcz6_0 : w5.cell? ⟨gb205, 0, none⟩ = some (.int .u8 a0_0) := (blk_cell BK205.out 0).trans rfl; have hcz6_1 : w5.cell? ⟨gb205, 1, none⟩ = some (.int .i64 a0_1) := (blk_cell BK205.out 1).trans rfl; have hcz6_2 : w5.cell? ⟨gb205, 2, none⟩ = some (.slice A0_2 l0_2.length c0_2) := (blk_cell BK205.out 2).trans rfl; have hcz6_3 : w5.cell? ⟨gb205, 3, none⟩ = some (.slice A0_3 l0_3.length c0_3) := (blk_cell BK205.out 3).trans rfl; have hcz6_4 : w5.cell? ⟨gb205, 4, none⟩ = some (.slice A0_4 l0_4.length c0_4) := (blk_cell BK205.out 4).trans rfl; have hfz6_0 := blk_frozen BK205.out 0; have hfz6_1 := blk_frozen BK205.out 1; have hfz6_2 := blk_frozen BK205.out 2; have hfz6_3 := blk_frozen BK205.out 3; have hfz6_4 := blk_frozen BK205.out 4))
  go_ret
  exact ⟨by first | rfl | (simp [errW_none, errW_some] <;> rfl) | (simp [*, errW_none, errW_some] <;> rfl), by repeat (first | (with_reducible first | exact HB.out | apply below_alloc | apply pw_below_drewN | apply below_drew1 | refine below_set ?_ GE205.out) | exact HB.out)⟩
/-! ### rubricref15_Makes: function 45 -/
def rubricref15_Makes.l0 : Nat → List (S30) → Int → Int → Option (Int)
 | 0, _, _, _ => none
 | k + 1, x0, x3, x4 => if x4 < (x0.length : Int) then (if 0 ≤ x4 then (if ((rd_T30 x0 x4).f0) = 3 then (rubricref15_Makes.l0 k x0 x3 (wrap64 (x4 + 1))) else ((rubricref15_Len.f ((rd_T30 x0 x4).f0) ((rd_T30 x0 x4).f1) ((rd_T30 x0 x4).f2) ((rd_T30 x0 x4).f3) ((rd_T30 x0 x4).f4)).bind fun t208 => (rubricref15_Makes.l0 k x0 (wrap64 (x3 + t208)) (wrap64 (x4 + 1))))) else (none)) else (some x3)
def rubricref15_Makes.f (k : Nat) (l0 : List (S30)) : Option (Int) := rubricref15_Makes.l0 k l0 0 0
set_option maxHeartbeats 8000000 in
set_option maxRecDepth 100000 in
theorem rubricref15_Makes.calls (k : Nat) (A0 : Option Addr) (c0 : Nat) (l0 : List (S30)) (r : Int) (w : World) (hr0 : Kd.C k30 w A0 l0.length l0) (hc0 : l0.length ≤ c0) (h : rubricref15_Makes.f k l0 = some r) :
  Calls Try.prog 45 #[.slice A0 l0.length c0] w fun e w' => e = .returned (.int .i64 r) ∧ Below w.heap.size w w' := by
 have hu30 := Try.underlying30
 have HR0 := Aside0.mk hr0
 have HC0 := Aside0.mk hc0
 clear hr0 hc0
 have HB := Aside0.mk (Below.refl w.heap.size w)
 have H : (rubricref15_Makes.l0 k l0 0 0) = some r := h
 clear h
 have H' := Aside0.mk H
 clear H
 go_enter Try.func45, Try.ntmps45
 go_wp2
 go_loopg [3, 4] k (fun kq v3 v4 w' => ∃ (x3_1 : Int) (x4_1 : Int), v3 = .int .i64 x3_1 ∧ v4 = .int .i64 x4_1 ∧ Aside0 (rubricref15_Makes.l0 kq l0 x3_1 x4_1 = some r) ∧ Aside0 (kq ≤ k) ∧ Aside0 (Below w.heap.size w w'))
 case atStart => exact ⟨(0), (0), (by first | rfl | (simp; done) | (simp [*]; done)), (by first | rfl | (simp; done) | (simp [*]; done)), H', ⟨Nat.le_refl _⟩, ⟨by repeat (first | (with_reducible first | exact HB.out | apply below_alloc | apply pw_below_drewN | apply below_drew1) | exact HB.out | exact Below.refl _ _)⟩⟩
 case round =>
  clear H'
  obtain ⟨x3_1, x4_1, rfl, rfl, HA, HK1, HB⟩ := hrel
  cases gk with
  | zero => exact absurd HA.out (by simp [rubricref15_Makes.l0])
  | succ k1 =>
   have H := HA.out
   clear HA
   simp only [rubricref15_Makes.l0] at H
   by_cases c2 : x4_1 < (l0.length : Int)
   ·rw [if_pos c2] at H
    have c2b0 : decide (x4_1 < (l0.length : Int)) = true := decide_eq_true c2
    clear c2
    by_cases c3 : 0 ≤ x4_1
    ·rw [if_pos c3] at H
     have c3b0 : decide (0 ≤ x4_1) = true := decide_eq_true c3
     clear c3
     by_cases c4 : ((rd_T30 l0 x4_1).f0) = 3
     ·rw [if_pos c4] at H
      have c4b0 : (((rd_T30 l0 x4_1).f0) == 3) = true := beq_iff_eq.mpr c4
      have c4b1 : (((rd_T30 l0 x4_1).f0) != 3) = false := bne_eq_false_iff_eq.mpr c4
      clear c4
      have H' := Aside0.mk H
      clear H
      have p206 : 0 ≤ (x4_1 : Int) := of_decide_eq_true (by first | (with_reducible assumption) | assumption)
      have q206 : x4_1 < (l0.length : Int) := of_decide_eq_true (by first | (with_reducible assumption) | assumption)
      obtain ⟨ad206, A206_2, c206_2, A206_3, c206_3, A206_4, c206_4, e206, hx206_0, hx206_1, hx206_2, hx206_3, hx206_4, hl206_2, hi206_2, hl206_3, hi206_3, hl206_4, hi206_4⟩ := at_T30 HR0.out x4_1 p206 q206
      cases e206
      replace hx206_0 := (HB.out.cell (World.block_lt_of_cell? w _ hx206_0)).trans hx206_0
      replace hx206_1 := (HB.out.cell (World.block_lt_of_cell? w _ hx206_1)).trans hx206_1
      replace hx206_2 := (HB.out.cell (World.block_lt_of_cell? w _ hx206_2)).trans hx206_2
      replace hx206_3 := (HB.out.cell (World.block_lt_of_cell? w _ hx206_3)).trans hx206_3
      replace hx206_4 := (HB.out.cell (World.block_lt_of_cell? w _ hx206_4)).trans hx206_4
      have HR206_2 := Aside0.mk hi206_2
      have HC206_2 := Aside0.mk hl206_2
      clear hi206_2 hl206_2
      have HR206_3 := Aside0.mk hi206_3
      have HC206_3 := Aside0.mk hl206_3
      clear hi206_3 hl206_3
      have HR206_4 := Aside0.mk hi206_4
      have HC206_4 := Aside0.mk hl206_4
      clear hi206_4 hl206_4
      replace p206 := eq_true p206
      replace q206 := eq_true q206
      go_wp2
      go_roundg k1
      case measure => have := HK1.out; omega
      case rel => exact ⟨(x3_1), (wrap64 (x4_1 + 1)), (by first | rfl | (simp; done) | (simp [*]; done)), (by first | rfl | (simp; done) | (simp [*]; done)), H', ⟨by have := HK1.out; omega⟩, ⟨by repeat (first | (with_reducible first | exact HB.out | apply below_alloc | apply pw_below_drewN | apply below_drew1) | exact HB.out | exact Below.refl _ _)⟩⟩
     ·rw [if_neg c4] at H
      have c4b0 : (((rd_T30 l0 x4_1).f0) == 3) = false := beq_eq_false_iff_ne.mpr c4
      have c4b1 : (((rd_T30 l0 x4_1).f0) != 3) = true := bne_iff_ne.mpr c4
      replace H := Option.bind_eq_some_iff.mp H
      obtain ⟨t208, A50, H⟩ := H
      replace H : (rubricref15_Makes.l0 k1 l0 (wrap64 (x3_1 + t208)) (wrap64 (x4_1 + 1))) = some r := H
      have A5 := Aside0.mk A50
      clear A50
      have H' := Aside0.mk H
      clear H
      have p206 : 0 ≤ (x4_1 : Int) := of_decide_eq_true (by first | (with_reducible assumption) | assumption)
      have q206 : x4_1 < (l0.length : Int) := of_decide_eq_true (by first | (with_reducible assumption) | assumption)
      obtain ⟨ad206, A206_2, c206_2, A206_3, c206_3, A206_4, c206_4, e206, hx206_0, hx206_1, hx206_2, hx206_3, hx206_4, hl206_2, hi206_2, hl206_3, hi206_3, hl206_4, hi206_4⟩ := at_T30 HR0.out x4_1 p206 q206
      cases e206
      replace hx206_0 := (HB.out.cell (World.block_lt_of_cell? w _ hx206_0)).trans hx206_0
      replace hx206_1 := (HB.out.cell (World.block_lt_of_cell? w _ hx206_1)).trans hx206_1
      replace hx206_2 := (HB.out.cell (World.block_lt_of_cell? w _ hx206_2)).trans hx206_2
      replace hx206_3 := (HB.out.cell (World.block_lt_of_cell? w _ hx206_3)).trans hx206_3
      replace hx206_4 := (HB.out.cell (World.block_lt_of_cell? w _ hx206_4)).trans hx206_4
      have HR206_2 := Aside0.mk hi206_2
      have HC206_2 := Aside0.mk hl206_2
      clear hi206_2 hl206_2
      have HR206_3 := Aside0.mk hi206_3
      have HC206_3 := Aside0.mk hl206_3
      clear hi206_3 hl206_3
      have HR206_4 := Aside0.mk hi206_4
      have HC206_4 := Aside0.mk hl206_4
      clear hi206_4 hl206_4
      replace p206 := eq_true p206
      replace q206 := eq_true q206
      have p207 : 0 ≤ (x4_1 : Int) := of_decide_eq_true (by first | (with_reducible assumption) | assumption)
      have q207 : x4_1 < (l0.length : Int) := of_decide_eq_true (by first | (with_reducible assumption) | assumption)
      obtain ⟨ad207, A207_2, c207_2, A207_3, c207_3, A207_4, c207_4, e207, hx207_0, hx207_1, hx207_2, hx207_3, hx207_4, hl207_2, hi207_2, hl207_3, hi207_3, hl207_4, hi207_4⟩ := at_T30 HR0.out x4_1 p207 q207
      obtain rfl : ad206 = ad207 := (by injection e207)
      replace hx207_0 := (HB.out.cell (World.block_lt_of_cell? w _ hx207_0)).trans hx207_0
      replace hx207_1 := (HB.out.cell (World.block_lt_of_cell? w _ hx207_1)).trans hx207_1
      replace hx207_2 := (HB.out.cell (World.block_lt_of_cell? w _ hx207_2)).trans hx207_2
      replace hx207_3 := (HB.out.cell (World.block_lt_of_cell? w _ hx207_3)).trans hx207_3
      replace hx207_4 := (HB.out.cell (World.block_lt_of_cell? w _ hx207_4)).trans hx207_4
      have HR207_2 := Aside0.mk hi207_2
      have HC207_2 := Aside0.mk hl207_2
      clear hi207_2 hl207_2
      have HR207_3 := Aside0.mk hi207_3
      have HC207_3 := Aside0.mk hl207_3
      clear hi207_3 hl207_3
      have HR207_4 := Aside0.mk hi207_4
      have HC207_4 := Aside0.mk hl207_4
      clear hi207_4 hl207_4
      replace p207 := eq_true p207
      replace q207 := eq_true q207
      have ea_ := Option.some.inj (hx206_2.symm.trans hx207_2)
      injection ea_ with ea_ en_ ec_
      subst ea_
      subst ec_
      clear en_
      have ea_ := Option.some.inj (hx206_3.symm.trans hx207_3)
      injection ea_ with ea_ en_ ec_
      subst ea_
      subst ec_
      clear en_
      have ea_ := Option.some.inj (hx206_4.symm.trans hx207_4)
      injection ea_ with ea_ en_ ec_
      subst ea_
      subst ec_
      clear en_
      go_wp2_with (first | ((with_reducible refine gate_callee (f := 58) rfl ?_); refine goesL_ (some 22) rfl rfl Try.func58 (by kernel_rfl) rfl #[.agg #[.int .u8 ((rd_T30 l0 x4_1).f0), .int .i64 ((rd_T30 l0 x4_1).f1), .slice A206_2 ((rd_T30 l0 x4_1).f2).length c206_2, .slice A206_3 ((rd_T30 l0 x4_1).f3).length c206_3, .slice A206_4 ((rd_T30 l0 x4_1).f4).length c206_4]] rfl (by (try simp only [List.map_toArray, List.map_cons, List.map_nil]); first | done | rfl | (simp only [List.length_drop, List.length_take]; rfl)) ?_; (with_reducible refine (rubricref15_Len.calls ((rd_T30 l0 x4_1).f0) ((rd_T30 l0 x4_1).f1) _ _ ((rd_T30 l0 x4_1).f2) _ _ ((rd_T30 l0 x4_1).f3) _ _ ((rd_T30 l0 x4_1).f4) t208 _ ?side1 ?side2 ?side3 ?side4 ?side5 ?side6 A5.out).mono ?_); (case side1 => repeat (first | exact (Kd.C_below HR207_2.out HB.out) | (with_reducible refine Kd.C_alloc ?_ _) | (with_reducible refine Kd.C_drewN ?_ _) | (with_reducible refine Kd.C_drew ?_))); (case side2 => exact HC207_2.out); (case side3 => repeat (first | exact (Kd.C_below HR207_3.out HB.out) | (with_reducible refine Kd.C_alloc ?_ _) | (with_reducible refine Kd.C_drewN ?_ _) | (with_reducible refine Kd.C_drew ?_))); (case side4 => exact HC207_3.out); (case side5 => repeat (first | exact (Kd.C_below HR207_4.out HB.out) | (with_reducible refine Kd.C_alloc ?_ _) | (with_reducible refine Kd.C_drewN ?_ _) | (with_reducible refine Kd.C_drew ?_))); (case side6 => exact HC207_4.out); rintro e w6 ⟨rfl, hb⟩; refine ⟨_, rfl, ?_⟩; have n0_ := Aside0.mk (below_step (by repeat (first | (with_reducible first | exact HB.out | apply below_alloc | apply pw_below_drewN | apply below_drew1) | exact HB.out | exact Below.refl _ _)) hb); clear HB; have HB := n0_; clear n0_; (try clear hb); (try clear hb2); (try clear hk); (try clear hi)))
      go_roundg k1
      case measure => have := HK1.out; omega
      case rel => exact ⟨(wrap64 (x3_1 + t208)), (wrap64 (x4_1 + 1)), (by first | rfl | (simp; done) | (simp [*]; done)), (by first | rfl | (simp; done) | (simp [*]; done)), H', ⟨by have := HK1.out; omega⟩, ⟨by repeat (first | (with_reducible first | exact HB.out | apply below_alloc | apply pw_below_drewN | apply below_drew1) | exact HB.out | exact Below.refl _ _)⟩⟩
    ·rw [if_neg c3] at H
     exact absurd H (by simp)
   ·rw [if_neg c2] at H
    have c2b0 : decide (x4_1 < (l0.length : Int)) = false := decide_eq_false c2
    clear c2
    obtain rfl := Option.some.inj H
    go_wp2
    go_ret
    exact ⟨by first | rfl | (simp [errW_none, errW_some] <;> rfl) | (simp [*, errW_none, errW_some] <;> rfl), by repeat (first | (with_reducible first | exact HB.out | apply below_alloc | apply pw_below_drewN | apply below_drew1) | exact HB.out | exact Below.refl _ _)⟩
end Go.Proofs.Ytmjeoknamoegpaa.P
namespace Go.Proofs.Ytmjeoknamoegpaa.P
open Go.RowKit Go.Proofs.YtmjeoknamoegpaaW.PrintWords Go.Proofs.YtmjeoknamoegpaaW.PrintLast Go.Proofs.YtmjeoknamoegpaaW.PrintMore
set_option linter.unusedVariables false
set_option linter.unusedSimpArgs false
theorem find_l0 (x0 : List S64) (x1 : Int) (hl : x0.length ≤ 20000) : ∀ (d : Nat) (i : Int) (k : Nat), 0 ≤ i → (x0.length : Int) - i ≤ d → d + 1 ≤ k → ∃ r, rubricref04_Find.l0 k x0 x1 i = some r
 | 0, i, k, h0, h1, hk => by
  obtain ⟨k, rfl⟩ : ∃ k', k = k' + 1 := ⟨k - 1, by omega⟩
  rw [rubricref04_Find.l0, if_neg (by omega)]
  exact ⟨_, rfl⟩
 | d + 1, i, k, h0, h1, hk => by
  obtain ⟨k, rfl⟩ : ∃ k', k = k' + 1 := ⟨k - 1, by omega⟩
  by_cases hlt : i < (x0.length : Int)
  ·have ih := find_l0 x0 x1 hl d (wrap64 (i + 1)) k (by rw [w64 _ (by omega)]; omega) (by rw [w64 _ (by omega)]; omega) (by omega)
   obtain ⟨j, rfl⟩ : ∃ j : Nat, i = (j : Int) := ⟨i.toNat, by omega⟩
   rw [rubricref04_Find.l0, if_pos hlt, if_pos h0]
   split
   ·exact ⟨_, rfl⟩
   ·exact ih
  ·rw [rubricref04_Find.l0, if_neg hlt]
   exact ⟨_, rfl⟩
theorem find_some (x0 : List S64) (x1 : Int) (hl : x0.length ≤ 20000) (k : Nat) (hk : 20001 ≤ k) : ∃ r, rubricref04_Find.f k x0 x1 = some r :=
 find_l0 x0 x1 hl x0.length 0 k (by omega) (by omega) (by omega)
theorem mayV_some (a b c : Int) (s : ByteArray) (h : s.size ≤ 20000) : ∃ r, rubricref03_May.f a b c s = some r := ⟨_, by unfold rubricref03_May.f; rw [if_pos h]⟩
theorem fits_some (x0 : List S64) (x1 a b c : Int) (s : ByteArray) (h : s.size ≤ 20000) (hl : x0.length ≤ 20000) (k : Nat) (hk : 20001 ≤ k) : ∃ r, rubricref04_Fits.f k x0 x1 a b c s = some r := by
 obtain ⟨r, hr⟩ := find_some x0 x1 hl k hk
 obtain ⟨m, hm⟩ := mayV_some a b c s h
 unfold rubricref04_Fits.f
 rw [hr, hm]
 simp only [Option.bind_some]
 split
 ·split <;> exact ⟨_, rfl⟩
 ·exact ⟨_, rfl⟩
theorem rising05_l0 (x0 : List S40) (hl : x0.length ≤ 20000) : ∀ (d : Nat) (i : Int) (k : Nat), 1 ≤ i → (x0.length : Int) - i ≤ d → d + 1 ≤ k → ∃ r, rubricref05_Rising.l0 k x0 i = some r
 | 0, i, k, h0, h1, hk => by
  obtain ⟨k, rfl⟩ : ∃ k', k = k' + 1 := ⟨k - 1, by omega⟩
  rw [rubricref05_Rising.l0, if_neg (by omega)]
  exact ⟨_, rfl⟩
 | d + 1, i, k, h0, h1, hk => by
  obtain ⟨k, rfl⟩ : ∃ k', k = k' + 1 := ⟨k - 1, by omega⟩
  by_cases hlt : i < (x0.length : Int)
  ·have ih := rising05_l0 x0 hl d (wrap64 (i + 1)) k (by rw [w64 _ (by omega)]; omega) (by rw [w64 _ (by omega)]; omega) (by omega)
   rw [rubricref05_Rising.l0, if_pos hlt, if_pos (by rw [w64 _ (by omega)]; omega), if_pos (by rw [w64 _ (by omega)]; omega), if_pos (by omega)]
   split
   ·exact ⟨_, rfl⟩
   ·exact ih
  ·rw [rubricref05_Rising.l0, if_neg hlt]
   exact ⟨_, rfl⟩
theorem rising05_some (x0 : List S40) (hl : x0.length ≤ 20000) (k : Nat) (hk : 20001 ≤ k) : ∃ r, rubricref05_Rising.f k x0 = some r :=
 rising05_l0 x0 hl x0.length 1 k (by omega) (by omega) (by omega)
theorem rising06_l0 (x0 : List S42) (hl : x0.length ≤ 20000) : ∀ (d : Nat) (i : Int) (k : Nat), 1 ≤ i → (x0.length : Int) - i ≤ d → d + 1 ≤ k → ∃ r, rubricref06_Rising.l0 k x0 i = some r
 | 0, i, k, h0, h1, hk => by
  obtain ⟨k, rfl⟩ : ∃ k', k = k' + 1 := ⟨k - 1, by omega⟩
  rw [rubricref06_Rising.l0, if_neg (by omega)]
  exact ⟨_, rfl⟩
 | d + 1, i, k, h0, h1, hk => by
  obtain ⟨k, rfl⟩ : ∃ k', k = k' + 1 := ⟨k - 1, by omega⟩
  by_cases hlt : i < (x0.length : Int)
  ·have ih := rising06_l0 x0 hl d (wrap64 (i + 1)) k (by rw [w64 _ (by omega)]; omega) (by rw [w64 _ (by omega)]; omega) (by omega)
   rw [rubricref06_Rising.l0, if_pos hlt, if_pos (by rw [w64 _ (by omega)]; omega), if_pos (by rw [w64 _ (by omega)]; omega), if_pos (by omega)]
   split
   ·exact ⟨_, rfl⟩
   ·exact ih
  ·rw [rubricref06_Rising.l0, if_neg hlt]
   exact ⟨_, rfl⟩
theorem rising06_some (x0 : List S42) (hl : x0.length ≤ 20000) (k : Nat) (hk : 20001 ≤ k) : ∃ r, rubricref06_Rising.f k x0 = some r :=
 rising06_l0 x0 hl x0.length 1 k (by omega) (by omega) (by omega)
theorem rune_some (a : Int) : ∃ b, rubricref01_May.f a = some b := may_some a
/-- What a well formed op is. -/
def OkO (o : S30) : Prop := (o.f0 = 1 ∧ o.f2 = [] ∧ o.f3 = [] ∧ 1 ≤ o.f1 ∧ o.f1 ≤ 536870912) ∨ (o.f0 = 3 ∧ o.f2 = [] ∧ o.f3 = [] ∧ o.f4 = [] ∧ 1 ≤ o.f1 ∧ o.f1 ≤ 536870912) ∨ (o.f0 = 2 ∧ o.f1 = 0 ∧ o.f4 = [] ∧ o.f2 ≠ [])
theorem nil_of {α : Type} {l : List α} (h : (l.length : Int) = 0) : l = [] := List.length_eq_zero_iff.1 (by omega)
theorem form_l0 (a b : Int) (l2 : List Int) (l3 : List S40) (l4 : List S42) (hl : l2.length ≤ 20000) : ∀ (d : Nat) (i : Int) (k : Nat), 0 ≤ i → (l2.length : Int) - i ≤ d → d + 1 ≤ k → ∃ r, rubricref15_form.l0 k i a b l2 l3 l4 = some r ∧ (r = true → b = 0 ∧ l4 = [] ∧ l2 ≠ [])
 | 0, i, k, h0, h1, hk => by
  obtain ⟨k, rfl⟩ : ∃ k', k = k' + 1 := ⟨k - 1, by omega⟩
  rw [rubricref15_form.l0, if_neg (by omega)]
  ·by_cases h_1 : b = 0
   ·by_cases h_2 : (l4.length : Int) = 0
    ·by_cases h_3 : (l2.length : Int) ≥ 1
     ·rw [if_pos h_1, if_pos h_2, if_pos h_3]; exact ⟨_, rfl, fun _ => ⟨h_1, nil_of h_2, fun h => by subst h; simp at h_3⟩⟩
     ·rw [if_pos h_1, if_pos h_2, if_neg h_3]; exact ⟨_, rfl, fun h => by cases h⟩
    ·rw [if_pos h_1, if_neg h_2]; exact ⟨_, rfl, fun h => by cases h⟩
   ·rw [if_neg h_1]; exact ⟨_, rfl, fun h => by cases h⟩
 | d + 1, i, k, h0, h1, hk => by
  obtain ⟨k, rfl⟩ : ∃ k', k = k' + 1 := ⟨k - 1, by omega⟩
  by_cases hlt : i < (l2.length : Int)
  ·have ih := form_l0 a b l2 l3 l4 hl d (wrap64 (i + 1)) k (by rw [w64 _ (by omega)]; omega) (by rw [w64 _ (by omega)]; omega) (by omega)
   obtain ⟨j, rfl⟩ : ∃ j : Nat, i = (j : Int) := ⟨i.toNat, by omega⟩
   rw [rubricref15_form.l0, if_pos hlt, if_pos h0]
   obtain ⟨m, hm⟩ := rune_some (rd l2 (j : Int))
   rw [hm, Option.bind_some]
   split
   ·exact ih
   ·exact ⟨_, rfl, fun h => by cases h⟩
  ·rw [rubricref15_form.l0, if_neg hlt]
   by_cases h_1 : b = 0
   ·by_cases h_2 : (l4.length : Int) = 0
    ·by_cases h_3 : (l2.length : Int) ≥ 1
     ·rw [if_pos h_1, if_pos h_2, if_pos h_3]; exact ⟨_, rfl, fun _ => ⟨h_1, nil_of h_2, fun h => by subst h; simp at h_3⟩⟩
     ·rw [if_pos h_1, if_pos h_2, if_neg h_3]; exact ⟨_, rfl, fun h => by cases h⟩
    ·rw [if_pos h_1, if_neg h_2]; exact ⟨_, rfl, fun h => by cases h⟩
   ·rw [if_neg h_1]; exact ⟨_, rfl, fun h => by cases h⟩
theorem form_some (o : S30) (hl : o.f2.length ≤ 20000) (k : Nat) (hk : 20010 ≤ k) : ∃ r, rubricref15_form.f k o.f0 o.f1 o.f2 o.f3 o.f4 = some r ∧ (r = true → OkO o) := by
 unfold rubricref15_form.f
 by_cases h1 : o.f0 = 1
 ·rw [if_pos h1]
  by_cases h2 : (o.f2.length : Int) = 0
  ·by_cases h3 : (o.f3.length : Int) = 0
   ·by_cases h4 : o.f1 ≥ 1
    ·rw [if_pos h2, if_pos h3, if_pos h4]; exact ⟨_, rfl, fun h => .inl ⟨h1, nil_of h2, nil_of h3, h4, of_decide_eq_true h⟩⟩
    ·rw [if_pos h2, if_pos h3, if_neg h4]; exact ⟨_, rfl, fun h => by cases h⟩
   ·rw [if_pos h2, if_neg h3]; exact ⟨_, rfl, fun h => by cases h⟩
  ·rw [if_neg h2]; exact ⟨_, rfl, fun h => by cases h⟩
 ·rw [if_neg h1]
  by_cases h1' : o.f0 = 3
  ·rw [if_pos h1']
   by_cases h2 : (o.f2.length : Int) = 0
   ·by_cases h3 : (o.f3.length : Int) = 0
    ·by_cases h5 : (o.f4.length : Int) = 0
     ·by_cases h4 : o.f1 ≥ 1
      ·rw [if_pos h2, if_pos h3, if_pos h5, if_pos h4]; exact ⟨_, rfl, fun h => .inr (.inl ⟨h1', nil_of h2, nil_of h3, nil_of h5, h4, of_decide_eq_true h⟩)⟩
      ·rw [if_pos h2, if_pos h3, if_pos h5, if_neg h4]; exact ⟨_, rfl, fun h => by cases h⟩
     ·rw [if_pos h2, if_pos h3, if_neg h5]; exact ⟨_, rfl, fun h => by cases h⟩
    ·rw [if_pos h2, if_neg h3]; exact ⟨_, rfl, fun h => by cases h⟩
   ·rw [if_neg h2]; exact ⟨_, rfl, fun h => by cases h⟩
  ·rw [if_neg h1']
   by_cases h2 : o.f0 = 2
   ·rw [if_pos h2]
    obtain ⟨r, hr, h⟩ := form_l0 o.f0 o.f1 o.f2 o.f3 o.f4 hl o.f2.length 0 k (by omega) (by omega) (by omega)
    exact ⟨r, hr, fun hr => .inr (.inr ⟨h2, h hr⟩)⟩
   ·rw [if_neg h2]; exact ⟨_, rfl, fun h => by cases h⟩
theorem takes_l0 (x0 : List S30) (hl : x0.length ≤ 20000) : ∀ (d : Nat) (n i : Int) (k : Nat), 0 ≤ i → (x0.length : Int) - i ≤ d → d + 1 ≤ k → ∃ r, rubricref15_Takes.l0 k x0 n i = some r
 | 0, n, i, k, h0, h1, hk => by
  obtain ⟨k, rfl⟩ : ∃ k', k = k' + 1 := ⟨k - 1, by omega⟩
  rw [rubricref15_Takes.l0, if_neg (by omega)]
  exact ⟨_, rfl⟩
 | d + 1, n, i, k, h0, h1, hk => by
  obtain ⟨k, rfl⟩ : ∃ k', k = k' + 1 := ⟨k - 1, by omega⟩
  by_cases hlt : i < (x0.length : Int)
  ·have ih := fun n => takes_l0 x0 hl d n (wrap64 (i + 1)) k (by rw [w64 _ (by omega)]; omega) (by rw [w64 _ (by omega)]; omega) (by omega)
   rw [rubricref15_Takes.l0, if_pos hlt, if_pos h0]
   split
   ·exact ih _
   ·exact ih _
  ·rw [rubricref15_Takes.l0, if_neg hlt]
   exact ⟨_, rfl⟩
theorem takes_some (x0 : List S30) (hl : x0.length ≤ 20000) (k : Nat) (hk : 20001 ≤ k) : ∃ r, rubricref15_Takes.f k x0 = some r :=
 takes_l0 x0 hl x0.length 0 0 k (by omega) (by omega) (by omega)
theorem len_some (a b : Int) (c : List Int) (d : List S40) (e : List S42) : ∃ r, rubricref15_Len.f a b c d e = some r := by
 unfold rubricref15_Len.f
 split <;> exact ⟨_, rfl⟩
theorem makes_l0 (x0 : List S30) (hl : x0.length ≤ 20000) : ∀ (d : Nat) (n i : Int) (k : Nat), 0 ≤ i → (x0.length : Int) - i ≤ d → d + 1 ≤ k → ∃ r, rubricref15_Makes.l0 k x0 n i = some r
 | 0, n, i, k, h0, h1, hk => by
  obtain ⟨k, rfl⟩ : ∃ k', k = k' + 1 := ⟨k - 1, by omega⟩
  rw [rubricref15_Makes.l0, if_neg (by omega)]
  exact ⟨_, rfl⟩
 | d + 1, n, i, k, h0, h1, hk => by
  obtain ⟨k, rfl⟩ : ∃ k', k = k' + 1 := ⟨k - 1, by omega⟩
  by_cases hlt : i < (x0.length : Int)
  ·have ih := fun n => makes_l0 x0 hl d n (wrap64 (i + 1)) k (by rw [w64 _ (by omega)]; omega) (by rw [w64 _ (by omega)]; omega) (by omega)
   rw [rubricref15_Makes.l0, if_pos hlt, if_pos h0]
   split
   ·exact ih _
   ·obtain ⟨r, hr⟩ := len_some (rd_T30 x0 i).f0 (rd_T30 x0 i).f1 (rd_T30 x0 i).f2 (rd_T30 x0 i).f3 (rd_T30 x0 i).f4
    rw [hr, Option.bind_some]
    exact ih _
  ·rw [rubricref15_Makes.l0, if_neg hlt]
   exact ⟨_, rfl⟩
theorem makes_some (x0 : List S30) (hl : x0.length ≤ 20000) (k : Nat) (hk : 20001 ≤ k) : ∃ r, rubricref15_Makes.f k x0 = some r :=
 makes_l0 x0 hl x0.length 0 0 k (by omega) (by omega) (by omega)
end Go.Proofs.Ytmjeoknamoegpaa.P
namespace Go.Proofs.Ytmjeoknamoegpaa.P
open Go.RowKit Go.Proofs.YtmjeoknamoegpaaW.PrintWords Go.Proofs.YtmjeoknamoegpaaW.PrintLast Go.Proofs.YtmjeoknamoegpaaW.PrintMore
set_option linter.unusedVariables false
set_option linter.unusedSimpArgs false
inductive InsOk : List S30 → Prop
 | nil : InsOk []
 | snoc (I : List S30) (x : S30) : InsOk I → x.f0 = 2 → x.f1 = 0 → x.f2 ≠ [] → x.f4 = [] → (∀ y, I.getLast? = some y → keyA y.f3 ≠ keyA x.f3) → InsOk (I ++ [x])
inductive Dn : List S30 → Prop
 | nil : Dn []
 | ret (D I : List S30) (g : Int) (r : S30) : Dn D → InsOk I → 0 ≤ g → g ≤ 4611686018427387904 → r.f0 = 1 → 1 ≤ r.f1 → r.f2 = [] → r.f3 = [] → (gapP I g = [] → ∀ y, D.getLast? = some y → keyC y.f4 ≠ keyC r.f4) → Dn (D ++ gapP I g ++ [r])
theorem gapP_0 (I : List S30) : gapP I 0 = I := by unfold gapP; rw [if_neg (by omega)]
theorem gapP_pos (I : List S30) (g : Int) (h : 0 < g) : gapP I g = I ++ [⟨3, g, [], [], []⟩] := by unfold gapP; rw [if_pos (by omega)]
theorem InsOk.last {I : List S30} (h : InsOk I) {y : S30} (hy : I.getLast? = some y) : y.f0 = 2 := by
 cases h with
 | nil => cases hy
 | snoc J x _ h0 =>
  rw [List.getLast?_concat] at hy
  obtain rfl := Option.some.inj hy
  exact h0
theorem getLast?_app {α : Type} (a b : List α) (h : b ≠ []) : (a ++ b).getLast? = b.getLast? := by
 rw [List.getLast?_append]
 cases hb : b.getLast? with
 | none => rw [List.getLast?_eq_none_iff] at hb; exact absurd hb h
 | some y => rfl
theorem gap_last {I : List S30} {g : Int} (h : InsOk I) (hn : gapP I g ≠ []) (D : List S30) : ∃ y, (D ++ gapP I g).getLast? = some y ∧ y.f0 ≠ 1 := by
 rw [getLast?_app _ _ hn]
 unfold gapP at hn ⊢
 split
 ·exact ⟨_, List.getLast?_concat, by simp⟩
 ·rename_i hg
  rw [if_neg hg] at hn
  obtain ⟨y, hy⟩ : ∃ y, I.getLast? = some y := ⟨_, List.getLast?_eq_some_getLast hn⟩
  exact ⟨y, hy, by rw [h.last hy]; decide⟩
theorem insertP_ok {I : List S30} (h : InsOk I) (l : List Int) (set : List S40) (hl : l ≠ []) : InsOk (insertP l set I) := by
 cases h with
 | nil => exact InsOk.snoc [] ⟨2, 0, l, set, []⟩ InsOk.nil rfl rfl hl rfl (by simp)
 | snoc J x hJ h0 h1 h2 h4 hk =>
  unfold insertP
  rw [List.getLast?_concat]
  dsimp only
  split
  ·rw [List.dropLast_concat]
   exact InsOk.snoc J _ hJ h0 h1 (by simp [h2]) h4 hk
  ·rename_i hne
   refine InsOk.snoc (J ++ [x]) ⟨2, 0, l, set, []⟩ (InsOk.snoc J x hJ h0 h1 h2 h4 hk) rfl rfl hl rfl (fun y hy => ?_)
   rw [List.getLast?_concat] at hy
   obtain rfl := Option.some.inj hy
   exact hne
theorem retainP_app {n : Int} {pt : List S42} {D I : List S30} {g : Int} (h : ∀ y, (D ++ gapP I g).getLast? = some y → ¬ (y.f0 = 1 ∧ keyC y.f4 = keyC pt)) : retainP n pt D I g = D ++ gapP I g ++ [⟨1, n, [], [], pt⟩] := by
 unfold retainP
 split
 ·rename_i o ho
  rw [if_neg (h o ho)]
 ·rfl
theorem retainP_ok {D I : List S30} {g : Int} (hD : Dn D) (hI : InsOk I) (h0 : 0 ≤ g) (h1 : g ≤ 4611686018427387904) (n : Int) (hn : 1 ≤ n) (hb : ∀ x ∈ D, x.f1 ≤ 2305843009213693952) (hn2 : n ≤ 2305843009213693952) (pt : List S42) : Dn (retainP n pt D I g) := by
 by_cases hm : ∃ y, (D ++ gapP I g).getLast? = some y ∧ y.f0 = 1 ∧ keyC y.f4 = keyC pt
 ·obtain ⟨y, hy, hy1, hy2⟩ := hm
  by_cases hg : gapP I g = []
  ·rw [hg, List.append_nil] at hy
   unfold retainP
   rw [hg, List.append_nil, hy]
   dsimp only
   rw [if_pos ⟨hy1, hy2⟩]
   cases hD with
   | nil => cases hy
   | ret D0 I0 g0 r a1 a2 a3 a4 a5 a6 a7 a8 a9 =>
    rw [List.getLast?_concat] at hy
    obtain rfl := Option.some.inj hy
    rw [List.dropLast_concat]
    have hr := hb r (by simp)
    exact Dn.ret D0 I0 g0 _ a1 a2 a3 a4 a5 (by show 1 ≤ wrap64 (r.f1 + n); rw [w64 _ (by omega)]; omega) a7 a8 a9
  ·obtain ⟨z, hz, hz1⟩ := gap_last hI hg D
   rw [hz] at hy
   obtain rfl := Option.some.inj hy
   exact absurd hy1 hz1
 ·rw [retainP_app (fun y hy hc => hm ⟨y, hy, hc⟩)]
  refine Dn.ret D I g ⟨1, n, [], [], pt⟩ hD hI h0 h1 rfl hn rfl rfl (fun hg y hy hk => hm ⟨y, by rw [hg, List.append_nil]; exact hy, ?_, hk⟩)
  cases hD with
  | nil => cases hy
  | ret D0 I0 g0 r a1 a2 a3 a4 a5 =>
   rw [List.getLast?_concat] at hy
   obtain rfl := Option.some.inj hy
   exact a5
def NS (s : Stt) (k : Nat) : Prop := Dn s.1 ∧ InsOk s.2.1 ∧ (0 ≤ s.2.2 ∧ s.2.2 ≤ 536870912 * (k : Int)) ∧ ∀ x ∈ s.1, x.f1 ≤ 536870912 * (k : Int)
theorem deleteP_ok (n g : Int) (k : Nat) (hk : k ≤ 100000) (h0 : 0 ≤ g) (h1 : g ≤ 536870912 * (k : Int)) (hn : 1 ≤ n) (hn2 : n ≤ 536870912) : deleteP n g = g + n := by
 unfold deleteP mx
 rw [if_neg (by omega)]
 exact w64 _ (by omega)
theorem InsOk.zero {I : List S30} (h : InsOk I) : ∀ x ∈ I, x.f1 = 0 := by
 induction h with
 | nil => intro x hx; cases hx
 | snoc J x _ _ h1 _ _ _ ih =>
  intro y hy
  rcases List.mem_append.1 hy with hy | hy
  ·exact ih y hy
  ·rw [List.mem_singleton.1 hy]; exact h1
theorem Dn.pos {D : List S30} (h : Dn D) : ∀ x ∈ D, 0 ≤ x.f1 := by
 induction h with
 | nil => intro x hx; cases hx
 | ret D I g r hD hI h0 h1 h2 h3 h4 h5 h6 ih =>
  intro x hx
  rcases List.mem_append.1 hx with hx | hx
  ·rcases List.mem_append.1 hx with hx | hx
   ·exact ih x hx
   ·rcases gapP_mem hx with hx | rfl
    ·rw [hI.zero x hx]; omega
    ·exact h0
  ·rw [List.mem_singleton.1 hx]; omega
theorem NS.step {s : Stt} {k : Nat} (h : NS s k) (o : S30) (ho : OkO o) (hk : k ≤ 100000) : NS (stepP s o) (k + 1) := by
 obtain ⟨D, I, g⟩ := s
 obtain ⟨hD, hI, ⟨h0, h1⟩, hb⟩ := h
 simp only at hD hI h0 h1 hb
 have hb' : ∀ x ∈ D, x.f1 ≤ 536870912 * ((k + 1 : Nat) : Int) := fun x hx => by have := hb x hx; omega
 unfold stepP
 rcases ho with ⟨a0, a2, a3, a1, a1'⟩ | ⟨a0, a2, a3, a4, a1, a1'⟩ | ⟨a0, a1, a4, a2⟩
 ·rw [if_pos a0, if_neg (by omega)]
  refine ⟨retainP_ok hD hI h0 (by omega) o.f1 a1 (fun x hx => by have := hb x hx; omega) (by omega) o.f4, InsOk.nil, ⟨by simp, by simp only; omega⟩, ?_⟩
  have hall : ∀ x ∈ D ++ gapP I g, x.f1 ≤ 536870912 * (k : Int) := by
   intro x hx
   rcases List.mem_append.1 hx with hx | hx
   ·exact hb x hx
   ·rcases gapP_mem hx with hx | rfl
    ·rw [hI.zero x hx]; omega
    ·exact h1
  intro x hx
  simp only [retainP] at hx
  split at hx
  ·rename_i y hy
   split at hx
   ·rcases List.mem_append.1 hx with hx | hx
    ·have := hall x (List.dropLast_subset _ hx); omega
    ·rw [List.mem_singleton.1 hx]
     have hy2 := hall y (List.mem_of_getLast? hy)
     show wrap64 (y.f1 + o.f1) ≤ _
     have hyl : -9223372036854775808 ≤ y.f1 + o.f1 ∨ y.f1 + o.f1 < -9223372036854775808 := by omega
     rcases hyl with hyl | hyl
     ·rw [w64 _ (by omega)]; omega
     ·exfalso
      rename_i hc
      have hyD : y ∈ D ++ gapP I g := List.mem_of_getLast? hy
      rcases List.mem_append.1 hyD with hyD | hyD
      ·have := hD.pos y hyD; omega
      ·rcases gapP_mem hyD with hyD | rfl
       ·have := hI.zero y hyD; omega
       ·simp only at hyl; omega
   ·rcases List.mem_append.1 hx with hx | hx
    ·have := hall x hx; omega
    ·rw [List.mem_singleton.1 hx]; show o.f1 ≤ _; omega
  ·rcases List.mem_append.1 hx with hx | hx
   ·have := hall x hx; omega
   ·rw [List.mem_singleton.1 hx]; show o.f1 ≤ _; omega
 ·rw [if_neg (by omega), if_neg (by omega), deleteP_ok o.f1 g k hk h0 h1 a1 a1']
  exact ⟨hD, hI, ⟨by simp only; omega, by simp only; omega⟩, hb'⟩
 ·rw [if_neg (by omega), if_pos a0, if_neg a2]
  exact ⟨hD, insertP_ok hI _ _ a2, ⟨h0, by simp only; omega⟩, hb'⟩
theorem NS.fold : ∀ (l : List S30) (s : Stt) (k : Nat), NS s k → (∀ o ∈ l, OkO o) → k + l.length ≤ 100000 → NS (l.foldl stepP s) (k + l.length)
 | [], s, k, h, _, _ => h
 | o :: l, s, k, h, ho, hk => by
  have h2 := NS.fold l (stepP s o) (k + 1) (h.step o (ho o (by simp)) (by simp only [List.length_cons] at hk; omega)) (fun x hx => ho x (by simp [hx])) (by simp only [List.length_cons] at hk; omega)
  have e1 : k + (o :: l).length = k + 1 + l.length := by simp; omega
  rw [e1]
  exact h2
theorem NS.of (l : List S30) (ho : ∀ o ∈ l, OkO o) (hl : l.length ≤ 100000) : NS (foldP l) l.length := by
 have h := NS.fold l ([], [], 0) 0 ⟨Dn.nil, InsOk.nil, ⟨by simp, by simp⟩, by simp⟩ ho (by omega)
 simpa [foldP] using h
/-! ### run again -/
theorem Dn.last {D : List S30} (h : Dn D) {y : S30} (hy : D.getLast? = some y) : y.f0 = 1 := by
 cases h with
 | nil => cases hy
 | ret D0 I0 g0 r a1 a2 a3 a4 a5 =>
  rw [List.getLast?_concat] at hy
  obtain rfl := Option.some.inj hy
  exact a5
/-- A normal list. -/
def NF (L : List S30) : Prop := ∃ (D I : List S30) (g : Int), L = D ++ gapP I g ∧ Dn D ∧ InsOk I ∧ 0 ≤ g ∧ g ≤ 4611686018427387904 ∧ ∀ y, L.getLast? = some y → ¬ (y.f0 = 1 ∧ y.f4.length = 0)
theorem NF.of {s : Stt} {k : Nat} (h : NS s k) (hk : k ≤ 100000) : NF (opsP s.1 s.2.1 s.2.2) := by
 obtain ⟨D, I, g⟩ := s
 obtain ⟨hD, hI, ⟨h0, h1⟩, hb⟩ := h
 simp only at hD hI h0 h1 hb ⊢
 have h2 : g ≤ 4611686018427387904 := by omega
 unfold opsP
 split
 ·rename_i o ho
  split
  ·rename_i hc
   by_cases hg : gapP I g = []
   ·rw [hg, List.append_nil] at ho ⊢
    cases hD with
    | nil => cases ho
    | ret D0 I0 g0 r a1 a2 a3 a4 a5 a6 a7 a8 a9 =>
     rw [List.getLast?_concat] at ho
     obtain rfl := Option.some.inj ho
     rw [List.dropLast_concat]
     refine ⟨D0, I0, g0, rfl, a1, a2, a3, a4, fun y hy hcy => ?_⟩
     by_cases hg0 : gapP I0 g0 = []
     ·rw [hg0, List.append_nil] at hy
      have h3 := a9 hg0 y hy
      have e1 : y.f4 = [] := List.length_eq_zero_iff.1 hcy.2
      have e2 : r.f4 = [] := List.length_eq_zero_iff.1 hc.2
      rw [e1, e2] at h3
      exact h3 rfl
     ·obtain ⟨z, hz, hz1⟩ := gap_last a2 hg0 D0
      rw [hz] at hy
      obtain rfl := Option.some.inj hy
      exact hz1 hcy.1
   ·obtain ⟨z, hz, hz1⟩ := gap_last hI hg D
    rw [hz] at ho
    obtain rfl := Option.some.inj ho
    exact absurd hc.1 hz1
  ·rename_i hc
   refine ⟨D, I, g, rfl, hD, hI, h0, h2, fun y hy => ?_⟩
   rw [hy] at ho
   obtain rfl := Option.some.inj ho
   exact hc
 ·rename_i hn
  refine ⟨D, I, g, rfl, hD, hI, h0, h2, fun y hy => ?_⟩
  rw [hy] at hn
  cases hn
/-! ### each gap's inserts stand ahead of one delete -/
end Go.Proofs.Ytmjeoknamoegpaa.P
namespace Go.Proofs.Ytmjeoknamoegpaa.P
open Go.RowKit Go.Proofs.YtmjeoknamoegpaaW.PrintWords Go.Proofs.YtmjeoknamoegpaaW.PrintLast Go.Proofs.YtmjeoknamoegpaaW.PrintMore
set_option linter.unusedVariables false
set_option linter.unusedSimpArgs false
theorem copy_loop (l : List S30) (hl : l.length ≤ 3000000) (hs : ∀ x ∈ l, x.f2.length ≤ 1000000 ∧ x.f3.length ≤ 1000000 ∧ x.f4.length ≤ 1000000) : ∀ (d i : Nat) (acc : List S30), i ≤ l.length → l.length - i = d → acc.length = i → rubricref15_Copy.l0 (d + 1) l acc (i : Int) = some (acc ++ l.drop i)
 | 0, i, acc, h0, h1, ha => by
  rw [rubricref15_Copy.l0, if_neg (by omega), List.drop_of_length_le (by omega), List.append_nil]
 | d + 1, i, acc, h0, h1, ha => by
  have hi : i < l.length := by omega
  obtain ⟨a, b, c⟩ := hs l[i] (List.getElem_mem hi)
  have ih := copy_loop l hl hs d (i + 1) (acc ++ [l[i]]) (by omega) (by omega) (by simp [ha])
  rw [rubricref15_Copy.l0, if_pos (by omega), if_pos (by omega), rd30_get l i hi]
  simp only [Option.bind_some, List.nil_append, List.length_nil, Nat.zero_add]
  rw [if_pos (by omega), if_pos (by omega), if_pos (by omega), if_pos (by omega), w64 _ (by omega), show (i : Int) + 1 = ((i + 1 : Nat) : Int) from by omega]
  rw [show (⟨l[i].f0, l[i].f1, l[i].f2, l[i].f3, l[i].f4⟩ : S30) = l[i] from rfl, ih, List.drop_eq_getElem_cons hi]
  simp
theorem copy_eq (l : List S30) (hl : l.length ≤ 3000000) (hs : ∀ x ∈ l, x.f2.length ≤ 1000000 ∧ x.f3.length ≤ 1000000 ∧ x.f4.length ≤ 1000000) : rubricref15_Copy.f (l.length + 1) l = some l := by
 have h := copy_loop l hl hs l.length 0 [] (by omega) (by omega) rfl
 unfold rubricref15_Copy.f
 simpa using h
theorem refCopy_calls (A0 : Option Addr) (c0 : Nat) (l0 : List S30) (w : World) (hr0 : Kd.C k30 w A0 l0.length l0) (hc0 : l0.length ≤ c0) (hl : l0.length ≤ 3000000) (hs : ∀ x ∈ l0, x.f2.length ≤ 1000000 ∧ x.f3.length ≤ 1000000 ∧ x.f4.length ≤ 1000000) :
  Calls Try.prog 15 #[.slice A0 l0.length c0] w fun e w' => ∃ v0_ : Value, e = .returned (v0_) ∧ Kd.S k30 30 w' w.heap.size (fun _ => True) v0_ l0 ∧ Below w.heap.size w w' :=
 rubricref15_Copy.calls (l0.length + 1) A0 c0 l0 l0 w hr0 hc0 (copy_eq l0 hl hs)
/-! ### ref.gap's fold -/
def gstep (s : List S30 × Int) (o : S30) : List S30 × Int :=
 if o.f0 = 3 then (s.1, wrap64 (s.2 + o.f1)) else
  match s.1.getLast? with
  | some l => if keyA l.f3 = keyA o.f3 then (s.1.dropLast ++ [⟨l.f0, l.f1, l.f2 ++ o.f2, l.f3, l.f4⟩], s.2) else (s.1 ++ [o], s.2)
  | none => (s.1 ++ [o], s.2)
def gapR (l : List S30) : List S30 := let s := l.foldl gstep ([], 0); gapP s.1 s.2
theorem gstep_eq (D I : List S30) (g : Int) (o : S30) (ho : OkO o) (h1 : o.f0 ≠ 1) : stepP (D, I, g) o = (D, (gstep (I, g) o).1, (gstep (I, g) o).2) := by
 rcases ho with ⟨a0, a2, a3, a1, a1'⟩ | ⟨a0, a2, a3, a4, a1, a1'⟩ | ⟨a0, a1, a4, a2⟩
 ·exact absurd a0 h1
 ·unfold stepP gstep deleteP mx
  rw [if_neg (by omega), if_neg (by omega), if_pos a0, if_neg (by omega)]
 ·have hx : (⟨2, 0, o.f2, o.f3, []⟩ : S30) = o := by cases o; simp_all
  unfold stepP gstep insertP
  rw [if_neg (by omega), if_pos a0, if_neg a2, if_neg (by omega)]
  simp only
  cases hl : I.getLast? with
  | none =>
   rw [List.getLast?_eq_none_iff] at hl
   subst hl
   simp only [hx]; rfl
  | some l =>
   simp only
   split
   ·rfl
   ·rw [hx]
theorem gfold_eq (D : List S30) : ∀ (l : List S30) (I : List S30) (g : Int), (∀ o ∈ l, OkO o ∧ o.f0 ≠ 1) → l.foldl stepP (D, I, g) = (D, (l.foldl gstep (I, g)).1, (l.foldl gstep (I, g)).2)
 | [], I, g, _ => rfl
 | o :: l, I, g, h => by
  rw [List.foldl_cons, List.foldl_cons, gstep_eq D I g o (h o (by simp)).1 (h o (by simp)).2]
  exact gfold_eq D l _ _ (fun x hx => h x (by simp [hx]))
/-- A retain behind a gap: out grows, or its last retain does. -/
def mergeR (L : List S30) (o : S30) : List S30 :=
 match L.getLast? with
 | some l => if l.f0 = 1 ∧ keyC l.f4 = keyC o.f4 then L.dropLast ++ [⟨l.f0, wrap64 (l.f1 + o.f1), l.f2, l.f3, l.f4⟩] else L ++ [o]
 | none => L ++ [o]
theorem mergeR_eq (D I : List S30) (g : Int) (o : S30) (ho : OkO o) (h1 : o.f0 = 1) : stepP (D, I, g) o = (mergeR (D ++ gapP I g) o, [], 0) := by
 rcases ho with ⟨a0, a2, a3, a1, a1'⟩ | ⟨a0, a2, a3, a4, a1, a1'⟩ | ⟨a0, a1, a4, a2⟩
 ·have hx : (⟨1, o.f1, [], [], o.f4⟩ : S30) = o := by cases o; simp_all
  unfold stepP retainP mergeR
  rw [if_pos a0, if_neg (by omega)]
  simp only [hx]
  generalize D ++ gapP I g = L
  cases L.getLast? <;> rfl
 ·omega
 ·omega
end Go.Proofs.Ytmjeoknamoegpaa.P
namespace Go.Proofs.Ytmjeoknamoegpaa.P
open Go.RowKit Go.Proofs.YtmjeoknamoegpaaW.PrintWords Go.Proofs.YtmjeoknamoegpaaW.PrintLast Go.Proofs.YtmjeoknamoegpaaW.PrintMore
attribute [local go_sem] max2_int min2_int max_two min_two max_three min_three max_four min_four   -- for this text's walks alone
set_option linter.unusedVariables false
set_option linter.unusedSimpArgs false
attribute [local go_sem high] eqA40 eqA42
/-! ### rubricref01_Same: function 31 -/
def rubricref01_Same.l0 : Nat → List Int → List Int → Int → Option (Bool)
 | 0, _, _, _ => none
 | k + 1, x0, x1, x5 => if x5 < (x0.length : Int) then (if 0 ≤ x5 then (if x5 < (x1.length : Int) then (if (rd x0 x5) = (rd x1 x5) then (rubricref01_Same.l0 k x0 x1 (wrap64 (x5 + 1))) else (some false)) else (none)) else (none)) else (some true)
def rubricref01_Same.f (k : Nat) (l0 : List Int) (l1 : List Int) : Option (Bool) := if (l0.length : Int) = (l1.length : Int) then (rubricref01_Same.l0 k l0 l1 0) else (some false)
set_option maxHeartbeats 8000000 in
set_option maxRecDepth 100000 in
theorem rubricref01_Same.calls (k : Nat) (A0 : Option Addr) (c0 : Nat) (l0 : List Int) (A1 : Option Addr) (c1 : Nat) (l1 : List Int) (r : Bool) (w : World) (hr0 : Kd.C (Kd.int .i32) w A0 l0.length l0) (hc0 : l0.length ≤ c0) (hr1 : Kd.C (Kd.int .i32) w A1 l1.length l1) (hc1 : l1.length ≤ c1) (h : rubricref01_Same.f k l0 l1 = some r) :
  Calls Try.prog 31 #[.slice A0 l0.length c0, .slice A1 l1.length c1] w fun e w' => e = .returned (.bool r) ∧ Drawn0 w w' := by
 have HR0 := Aside0.mk hr0
 have HC0 := Aside0.mk hc0
 clear hr0 hc0
 have HR1 := Aside0.mk hr1
 have HC1 := Aside0.mk hc1
 clear hr1 hc1
 have H : (if (l0.length : Int) = (l1.length : Int) then (rubricref01_Same.l0 k l0 l1 0) else (some false)) = some r := h
 clear h
 by_cases c3 : (l0.length : Int) = (l1.length : Int)
 ·rw [if_pos c3] at H
  have c3b0 : ((l0.length : Int) == (l1.length : Int)) = true := beq_iff_eq.mpr c3
  have c3b1 : ((l0.length : Int) != (l1.length : Int)) = false := bne_eq_false_iff_eq.mpr c3
  have c3b2 : (l0.length == l1.length) = true := by first | simpa using c3 | (simp at c3 ⊢; omega)
  clear c3
  have H' := Aside0.mk H
  clear H
  go_enter Try.func31, Try.ntmps31
  go_wp2
  repeat (go_quiet (fail); try go_wp2)
  go_loopg [5] k (fun kq v5 w' => ∃ (x5_1 : Int), v5 = .int .i64 x5_1 ∧ Aside0 (rubricref01_Same.l0 kq l0 l1 x5_1 = some r) ∧ Aside0 (kq ≤ k) ∧ Drawn0 w w')
  case atStart => exact ⟨(0), (by first | rfl | (simp; done) | (simp [*]; done)), H', ⟨Nat.le_refl _⟩, by repeat (first | exact Drawn0.refl _ | apply Drawn0.step)⟩
  case round =>
   clear H'
   try clear c1
   try clear p2
   try clear c3
   try clear c3b0
   try clear c3e
   try clear c3b0d c3b0p
   try clear c3b0d
   try clear c3b1
   try clear c3b1d c3b1p
   try clear c3b1d
   try clear c3b2
   try clear c3b2d c3b2p
   try clear c3b2d
   obtain ⟨x5_1, rfl, HA, HK1, ⟨m1, rfl⟩⟩ := hrel
   cases gk with
   | zero => exact absurd HA.out (by simp [rubricref01_Same.l0])
   | succ k1 =>
    have H := HA.out
    clear HA
    simp only [rubricref01_Same.l0] at H
    by_cases c4 : x5_1 < (l0.length : Int)
    ·rw [if_pos c4] at H
     have c4b0 : decide (x5_1 < (l0.length : Int)) = true := decide_eq_true c4
     clear c4
     by_cases c5 : 0 ≤ x5_1
     ·rw [if_pos c5] at H
      have c5b0 : decide (0 ≤ x5_1) = true := decide_eq_true c5
      clear c5
      by_cases c6 : x5_1 < (l1.length : Int)
      ·rw [if_pos c6] at H
       have c6b0 : decide (x5_1 < (l1.length : Int)) = true := decide_eq_true c6
       clear c6
       by_cases c7 : (rd l0 x5_1) = (rd l1 x5_1)
       ·rw [if_pos c7] at H
        have c7b0 : ((rd l0 x5_1) == (rd l1 x5_1)) = true := beq_iff_eq.mpr c7
        have c7b1 : ((rd l0 x5_1) != (rd l1 x5_1)) = false := bne_eq_false_iff_eq.mpr c7
        clear c7
        have H' := Aside0.mk H
        clear H
        have p355 : 0 ≤ (x5_1 : Int) := of_decide_eq_true (by first | (with_reducible assumption) | assumption)
        have q355 : x5_1 < (l0.length : Int) := of_decide_eq_true (by first | (with_reducible assumption) | assumption)
        obtain ⟨ad355, e355, hx355_0⟩ := Kd.at_int HR0.out x5_1 p355 q355
        cases e355
        replace p355 := eq_true p355
        replace q355 := eq_true q355
        have p356 : 0 ≤ (x5_1 : Int) := of_decide_eq_true (by first | (with_reducible assumption) | assumption)
        have q356 : x5_1 < (l1.length : Int) := of_decide_eq_true (by first | (with_reducible assumption) | assumption)
        obtain ⟨ad356, e356, hx356_0⟩ := Kd.at_int HR1.out x5_1 p356 q356
        cases e356
        replace p356 := eq_true p356
        replace q356 := eq_true q356
        go_wp2
        repeat (go_quiet (fail); try go_wp2)
        go_roundg k1
        case measure => have := HK1.out; omega
        case rel => exact ⟨(wrap64 (x5_1 + 1)), (by first | rfl | (simp; done) | (simp [*]; done)), H', ⟨by have := HK1.out; omega⟩, by repeat (first | exact Drawn0.refl _ | apply Drawn0.step)⟩
       ·rw [if_neg c7] at H
        have c7b0 : ((rd l0 x5_1) == (rd l1 x5_1)) = false := beq_eq_false_iff_ne.mpr c7
        have c7b1 : ((rd l0 x5_1) != (rd l1 x5_1)) = true := bne_iff_ne.mpr c7
        obtain rfl := Option.some.inj H
        have p355 : 0 ≤ (x5_1 : Int) := of_decide_eq_true (by first | (with_reducible assumption) | assumption)
        have q355 : x5_1 < (l0.length : Int) := of_decide_eq_true (by first | (with_reducible assumption) | assumption)
        obtain ⟨ad355, e355, hx355_0⟩ := Kd.at_int HR0.out x5_1 p355 q355
        cases e355
        replace p355 := eq_true p355
        replace q355 := eq_true q355
        have p356 : 0 ≤ (x5_1 : Int) := of_decide_eq_true (by first | (with_reducible assumption) | assumption)
        have q356 : x5_1 < (l1.length : Int) := of_decide_eq_true (by first | (with_reducible assumption) | assumption)
        obtain ⟨ad356, e356, hx356_0⟩ := Kd.at_int HR1.out x5_1 p356 q356
        cases e356
        replace p356 := eq_true p356
        replace q356 := eq_true q356
        go_wp2
        repeat (go_quiet (fail); try go_wp2)
        go_ret
        exact ⟨by first | rfl | (simp; done) | (simp [*]; done), by repeat (first | exact Drawn0.refl _ | apply Drawn0.step)⟩
      ·rw [if_neg c6] at H
       exact absurd H (by simp)
     ·rw [if_neg c5] at H
      exact absurd H (by simp)
    ·rw [if_neg c4] at H
     have c4b0 : decide (x5_1 < (l0.length : Int)) = false := decide_eq_false c4
     clear c4
     obtain rfl := Option.some.inj H
     go_wp2
     repeat (go_quiet (fail); try go_wp2)
     go_ret
     exact ⟨by first | rfl | (simp; done) | (simp [*]; done), by repeat (first | exact Drawn0.refl _ | apply Drawn0.step)⟩
 ·rw [if_neg c3] at H
  have c3b0 : ((l0.length : Int) == (l1.length : Int)) = false := beq_eq_false_iff_ne.mpr c3
  have c3b1 : ((l0.length : Int) != (l1.length : Int)) = true := bne_iff_ne.mpr c3
  have c3b2 : (l0.length == l1.length) = false := by first | simpa using c3 | (simp at c3 ⊢; omega)
  obtain rfl := Option.some.inj H
  go_enter Try.func31, Try.ntmps31
  go_wp2
  repeat (go_quiet (fail); try go_wp2)
  go_ret
  exact ⟨by first | rfl | (simp; done) | (simp [*]; done), by repeat (first | exact Drawn0.refl _ | apply Drawn0.step)⟩
/-! ### rubricref05_Same: function 32 -/
def rubricref05_Same.l0 : Nat → List (S40) → List (S40) → Int → Option (Bool)
 | 0, _, _, _ => none
 | k + 1, x0, x1, x5 => if x5 < (x0.length : Int) then (if 0 ≤ x5 then (if x5 < (x1.length : Int) then (if (!(((rd_T40 x0 x5).f0) == ((rd_T40 x1 x5).f0)) || ((!(((rd_T40 x0 x5).f1.f0) == ((rd_T40 x1 x5).f1.f0)) || (!(((rd_T40 x0 x5).f1.f1) == ((rd_T40 x1 x5).f1.f1)) || (!(((rd_T40 x0 x5).f1.f2) == ((rd_T40 x1 x5).f1.f2)) || (!((((rd_T40 x0 x5).f1.f3).toList) == (((rd_T40 x1 x5).f1.f3).toList)))))))) = true then (some false) else (rubricref05_Same.l0 k x0 x1 (wrap64 (x5 + 1)))) else (none)) else (none)) else (some true)
def rubricref05_Same.f (k : Nat) (l0 : List (S40)) (l1 : List (S40)) : Option (Bool) := if (l0.length : Int) = (l1.length : Int) then (rubricref05_Same.l0 k l0 l1 0) else (some false)
set_option maxHeartbeats 8000000 in
set_option maxRecDepth 100000 in
theorem rubricref05_Same.calls (k : Nat) (A0 : Option Addr) (c0 : Nat) (l0 : List (S40)) (A1 : Option Addr) (c1 : Nat) (l1 : List (S40)) (r : Bool) (w : World) (hr0 : Kd.C k40 w A0 l0.length l0) (hc0 : l0.length ≤ c0) (hr1 : Kd.C k40 w A1 l1.length l1) (hc1 : l1.length ≤ c1) (h : rubricref05_Same.f k l0 l1 = some r) :
  Calls Try.prog 32 #[.slice A0 l0.length c0, .slice A1 l1.length c1] w fun e w' => e = .returned (.bool r) ∧ Drawn0 w w' := by
 have hu40 := Try.underlying40
 have HR0 := Aside0.mk hr0
 have HC0 := Aside0.mk hc0
 clear hr0 hc0
 have HR1 := Aside0.mk hr1
 have HC1 := Aside0.mk hc1
 clear hr1 hc1
 have H : (if (l0.length : Int) = (l1.length : Int) then (rubricref05_Same.l0 k l0 l1 0) else (some false)) = some r := h
 clear h
 by_cases c3 : (l0.length : Int) = (l1.length : Int)
 ·rw [if_pos c3] at H
  have c3b0 : ((l0.length : Int) == (l1.length : Int)) = true := beq_iff_eq.mpr c3
  have c3b1 : ((l0.length : Int) != (l1.length : Int)) = false := bne_eq_false_iff_eq.mpr c3
  have c3b2 : (l0.length == l1.length) = true := by first | simpa using c3 | (simp at c3 ⊢; omega)
  clear c3
  have H' := Aside0.mk H
  clear H
  go_enter Try.func32, Try.ntmps32
  go_wp2
  repeat (go_quiet (fail); try go_wp2)
  go_loopg [5] k (fun kq v5 w' => ∃ (x5_1 : Int), v5 = .int .i64 x5_1 ∧ Aside0 (rubricref05_Same.l0 kq l0 l1 x5_1 = some r) ∧ Aside0 (kq ≤ k) ∧ Drawn0 w w')
  case atStart => exact ⟨(0), (by first | rfl | (simp; done) | (simp [*]; done)), H', ⟨Nat.le_refl _⟩, by repeat (first | exact Drawn0.refl _ | apply Drawn0.step)⟩
  case round =>
   clear H'
   try clear c1
   try clear p2
   try clear c3
   try clear c3b0
   try clear c3e
   try clear c3b0d c3b0p
   try clear c3b0d
   try clear c3b1
   try clear c3b1d c3b1p
   try clear c3b1d
   try clear c3b2
   try clear c3b2d c3b2p
   try clear c3b2d
   obtain ⟨x5_1, rfl, HA, HK1, ⟨m1, rfl⟩⟩ := hrel
   cases gk with
   | zero => exact absurd HA.out (by simp [rubricref05_Same.l0])
   | succ k1 =>
    have H := HA.out
    clear HA
    simp only [rubricref05_Same.l0] at H
    by_cases c4 : x5_1 < (l0.length : Int)
    ·rw [if_pos c4] at H
     have c4b0 : decide (x5_1 < (l0.length : Int)) = true := decide_eq_true c4
     clear c4
     by_cases c5 : 0 ≤ x5_1
     ·rw [if_pos c5] at H
      have c5b0 : decide (0 ≤ x5_1) = true := decide_eq_true c5
      clear c5
      by_cases c6 : x5_1 < (l1.length : Int)
      ·rw [if_pos c6] at H
       have c6b0 : decide (x5_1 < (l1.length : Int)) = true := decide_eq_true c6
       clear c6
       by_cases c7 : (!(((rd_T40 l0 x5_1).f0) == ((rd_T40 l1 x5_1).f0)) || ((!(((rd_T40 l0 x5_1).f1.f0) == ((rd_T40 l1 x5_1).f1.f0)) || (!(((rd_T40 l0 x5_1).f1.f1) == ((rd_T40 l1 x5_1).f1.f1)) || (!(((rd_T40 l0 x5_1).f1.f2) == ((rd_T40 l1 x5_1).f1.f2)) || (!((((rd_T40 l0 x5_1).f1.f3).toList) == (((rd_T40 l1 x5_1).f1.f3).toList)))))))) = true
       ·rw [if_pos c7] at H
        have c7b0 : (!(((rd_T40 l0 x5_1).f0) == ((rd_T40 l1 x5_1).f0)) || ((!(((rd_T40 l0 x5_1).f1.f0) == ((rd_T40 l1 x5_1).f1.f0)) || (!(((rd_T40 l0 x5_1).f1.f1) == ((rd_T40 l1 x5_1).f1.f1)) || (!(((rd_T40 l0 x5_1).f1.f2) == ((rd_T40 l1 x5_1).f1.f2)) || (!((((rd_T40 l0 x5_1).f1.f3).toList) == (((rd_T40 l1 x5_1).f1.f3).toList)))))))) = true := c7
        clear c7
        obtain rfl := Option.some.inj H
        have p357 : 0 ≤ (x5_1 : Int) := of_decide_eq_true (by first | (with_reducible assumption) | assumption)
        have q357 : x5_1 < (l0.length : Int) := of_decide_eq_true (by first | (with_reducible assumption) | assumption)
        obtain ⟨ad357, e357, hx357_0, hx357_1, hx357_2, hx357_3, hx357_4⟩ := at_T40 HR0.out x5_1 p357 q357
        cases e357
        replace p357 := eq_true p357
        replace q357 := eq_true q357
        have p358 : 0 ≤ (x5_1 : Int) := of_decide_eq_true (by first | (with_reducible assumption) | assumption)
        have q358 : x5_1 < (l1.length : Int) := of_decide_eq_true (by first | (with_reducible assumption) | assumption)
        obtain ⟨ad358, e358, hx358_0, hx358_1, hx358_2, hx358_3, hx358_4⟩ := at_T40 HR1.out x5_1 p358 q358
        cases e358
        replace p358 := eq_true p358
        replace q358 := eq_true q358
        go_wp2
        repeat (go_quiet (fail); try go_wp2)
        go_ret
        exact ⟨by first | rfl | (simp; done) | (simp [*]; done), by repeat (first | exact Drawn0.refl _ | apply Drawn0.step)⟩
       ·rw [if_neg c7] at H
        have c7b0 : (!(((rd_T40 l0 x5_1).f0) == ((rd_T40 l1 x5_1).f0)) || ((!(((rd_T40 l0 x5_1).f1.f0) == ((rd_T40 l1 x5_1).f1.f0)) || (!(((rd_T40 l0 x5_1).f1.f1) == ((rd_T40 l1 x5_1).f1.f1)) || (!(((rd_T40 l0 x5_1).f1.f2) == ((rd_T40 l1 x5_1).f1.f2)) || (!((((rd_T40 l0 x5_1).f1.f3).toList) == (((rd_T40 l1 x5_1).f1.f3).toList)))))))) = false := by simpa using c7
        clear c7
        have H' := Aside0.mk H
        clear H
        have p357 : 0 ≤ (x5_1 : Int) := of_decide_eq_true (by first | (with_reducible assumption) | assumption)
        have q357 : x5_1 < (l0.length : Int) := of_decide_eq_true (by first | (with_reducible assumption) | assumption)
        obtain ⟨ad357, e357, hx357_0, hx357_1, hx357_2, hx357_3, hx357_4⟩ := at_T40 HR0.out x5_1 p357 q357
        cases e357
        replace p357 := eq_true p357
        replace q357 := eq_true q357
        have p358 : 0 ≤ (x5_1 : Int) := of_decide_eq_true (by first | (with_reducible assumption) | assumption)
        have q358 : x5_1 < (l1.length : Int) := of_decide_eq_true (by first | (with_reducible assumption) | assumption)
        obtain ⟨ad358, e358, hx358_0, hx358_1, hx358_2, hx358_3, hx358_4⟩ := at_T40 HR1.out x5_1 p358 q358
        cases e358
        replace p358 := eq_true p358
        replace q358 := eq_true q358
        go_wp2
        repeat (go_quiet (fail); try go_wp2)
        go_roundg k1
        case measure => have := HK1.out; omega
        case rel => exact ⟨(wrap64 (x5_1 + 1)), (by first | rfl | (simp; done) | (simp [*]; done)), H', ⟨by have := HK1.out; omega⟩, by repeat (first | exact Drawn0.refl _ | apply Drawn0.step)⟩
      ·rw [if_neg c6] at H
       exact absurd H (by simp)
     ·rw [if_neg c5] at H
      exact absurd H (by simp)
    ·rw [if_neg c4] at H
     have c4b0 : decide (x5_1 < (l0.length : Int)) = false := decide_eq_false c4
     clear c4
     obtain rfl := Option.some.inj H
     go_wp2
     repeat (go_quiet (fail); try go_wp2)
     go_ret
     exact ⟨by first | rfl | (simp; done) | (simp [*]; done), by repeat (first | exact Drawn0.refl _ | apply Drawn0.step)⟩
 ·rw [if_neg c3] at H
  have c3b0 : ((l0.length : Int) == (l1.length : Int)) = false := beq_eq_false_iff_ne.mpr c3
  have c3b1 : ((l0.length : Int) != (l1.length : Int)) = true := bne_iff_ne.mpr c3
  have c3b2 : (l0.length == l1.length) = false := by first | simpa using c3 | (simp at c3 ⊢; omega)
  obtain rfl := Option.some.inj H
  go_enter Try.func32, Try.ntmps32
  go_wp2
  repeat (go_quiet (fail); try go_wp2)
  go_ret
  exact ⟨by first | rfl | (simp; done) | (simp [*]; done), by repeat (first | exact Drawn0.refl _ | apply Drawn0.step)⟩
/-! ### rubricref06_Same: function 33 -/
def rubricref06_Same.l0 : Nat → List (S42) → List (S42) → Int → Option (Bool)
 | 0, _, _, _ => none
 | k + 1, x0, x1, x5 => if x5 < (x0.length : Int) then (if 0 ≤ x5 then (if x5 < (x1.length : Int) then (if (!(((rd_T42 x0 x5).f0) == ((rd_T42 x1 x5).f0)) || (!(((rd_T42 x0 x5).f1) == ((rd_T42 x1 x5).f1)) || ((!(((rd_T42 x0 x5).f2.f0) == ((rd_T42 x1 x5).f2.f0)) || (!(((rd_T42 x0 x5).f2.f1) == ((rd_T42 x1 x5).f2.f1)) || (!(((rd_T42 x0 x5).f2.f2) == ((rd_T42 x1 x5).f2.f2)) || (!((((rd_T42 x0 x5).f2.f3).toList) == (((rd_T42 x1 x5).f2.f3).toList))))))))) = true then (some false) else (rubricref06_Same.l0 k x0 x1 (wrap64 (x5 + 1)))) else (none)) else (none)) else (some true)
def rubricref06_Same.f (k : Nat) (l0 : List (S42)) (l1 : List (S42)) : Option (Bool) := if (l0.length : Int) = (l1.length : Int) then (rubricref06_Same.l0 k l0 l1 0) else (some false)
set_option maxHeartbeats 8000000 in
set_option maxRecDepth 100000 in
theorem rubricref06_Same.calls (k : Nat) (A0 : Option Addr) (c0 : Nat) (l0 : List (S42)) (A1 : Option Addr) (c1 : Nat) (l1 : List (S42)) (r : Bool) (w : World) (hr0 : Kd.C k42 w A0 l0.length l0) (hc0 : l0.length ≤ c0) (hr1 : Kd.C k42 w A1 l1.length l1) (hc1 : l1.length ≤ c1) (h : rubricref06_Same.f k l0 l1 = some r) :
  Calls Try.prog 33 #[.slice A0 l0.length c0, .slice A1 l1.length c1] w fun e w' => e = .returned (.bool r) ∧ Drawn0 w w' := by
 have hu42 := Try.underlying42
 have HR0 := Aside0.mk hr0
 have HC0 := Aside0.mk hc0
 clear hr0 hc0
 have HR1 := Aside0.mk hr1
 have HC1 := Aside0.mk hc1
 clear hr1 hc1
 have H : (if (l0.length : Int) = (l1.length : Int) then (rubricref06_Same.l0 k l0 l1 0) else (some false)) = some r := h
 clear h
 by_cases c3 : (l0.length : Int) = (l1.length : Int)
 ·rw [if_pos c3] at H
  have c3b0 : ((l0.length : Int) == (l1.length : Int)) = true := beq_iff_eq.mpr c3
  have c3b1 : ((l0.length : Int) != (l1.length : Int)) = false := bne_eq_false_iff_eq.mpr c3
  have c3b2 : (l0.length == l1.length) = true := by first | simpa using c3 | (simp at c3 ⊢; omega)
  clear c3
  have H' := Aside0.mk H
  clear H
  go_enter Try.func33, Try.ntmps33
  go_wp2
  repeat (go_quiet (fail); try go_wp2)
  go_loopg [5] k (fun kq v5 w' => ∃ (x5_1 : Int), v5 = .int .i64 x5_1 ∧ Aside0 (rubricref06_Same.l0 kq l0 l1 x5_1 = some r) ∧ Aside0 (kq ≤ k) ∧ Drawn0 w w')
  case atStart => exact ⟨(0), (by first | rfl | (simp; done) | (simp [*]; done)), H', ⟨Nat.le_refl _⟩, by repeat (first | exact Drawn0.refl _ | apply Drawn0.step)⟩
  case round =>
   clear H'
   try clear c1
   try clear p2
   try clear c3
   try clear c3b0
   try clear c3e
   try clear c3b0d c3b0p
   try clear c3b0d
   try clear c3b1
   try clear c3b1d c3b1p
   try clear c3b1d
   try clear c3b2
   try clear c3b2d c3b2p
   try clear c3b2d
   obtain ⟨x5_1, rfl, HA, HK1, ⟨m1, rfl⟩⟩ := hrel
   cases gk with
   | zero => exact absurd HA.out (by simp [rubricref06_Same.l0])
   | succ k1 =>
    have H := HA.out
    clear HA
    simp only [rubricref06_Same.l0] at H
    by_cases c4 : x5_1 < (l0.length : Int)
    ·rw [if_pos c4] at H
     have c4b0 : decide (x5_1 < (l0.length : Int)) = true := decide_eq_true c4
     clear c4
     by_cases c5 : 0 ≤ x5_1
     ·rw [if_pos c5] at H
      have c5b0 : decide (0 ≤ x5_1) = true := decide_eq_true c5
      clear c5
      by_cases c6 : x5_1 < (l1.length : Int)
      ·rw [if_pos c6] at H
       have c6b0 : decide (x5_1 < (l1.length : Int)) = true := decide_eq_true c6
       clear c6
       by_cases c7 : (!(((rd_T42 l0 x5_1).f0) == ((rd_T42 l1 x5_1).f0)) || (!(((rd_T42 l0 x5_1).f1) == ((rd_T42 l1 x5_1).f1)) || ((!(((rd_T42 l0 x5_1).f2.f0) == ((rd_T42 l1 x5_1).f2.f0)) || (!(((rd_T42 l0 x5_1).f2.f1) == ((rd_T42 l1 x5_1).f2.f1)) || (!(((rd_T42 l0 x5_1).f2.f2) == ((rd_T42 l1 x5_1).f2.f2)) || (!((((rd_T42 l0 x5_1).f2.f3).toList) == (((rd_T42 l1 x5_1).f2.f3).toList))))))))) = true
       ·rw [if_pos c7] at H
        have c7b0 : (!(((rd_T42 l0 x5_1).f0) == ((rd_T42 l1 x5_1).f0)) || (!(((rd_T42 l0 x5_1).f1) == ((rd_T42 l1 x5_1).f1)) || ((!(((rd_T42 l0 x5_1).f2.f0) == ((rd_T42 l1 x5_1).f2.f0)) || (!(((rd_T42 l0 x5_1).f2.f1) == ((rd_T42 l1 x5_1).f2.f1)) || (!(((rd_T42 l0 x5_1).f2.f2) == ((rd_T42 l1 x5_1).f2.f2)) || (!((((rd_T42 l0 x5_1).f2.f3).toList) == (((rd_T42 l1 x5_1).f2.f3).toList))))))))) = true := c7
        clear c7
        obtain rfl := Option.some.inj H
        have p359 : 0 ≤ (x5_1 : Int) := of_decide_eq_true (by first | (with_reducible assumption) | assumption)
        have q359 : x5_1 < (l0.length : Int) := of_decide_eq_true (by first | (with_reducible assumption) | assumption)
        obtain ⟨ad359, e359, hx359_0, hx359_1, hx359_2, hx359_3, hx359_4, hx359_5⟩ := at_T42 HR0.out x5_1 p359 q359
        cases e359
        replace p359 := eq_true p359
        replace q359 := eq_true q359
        have p360 : 0 ≤ (x5_1 : Int) := of_decide_eq_true (by first | (with_reducible assumption) | assumption)
        have q360 : x5_1 < (l1.length : Int) := of_decide_eq_true (by first | (with_reducible assumption) | assumption)
        obtain ⟨ad360, e360, hx360_0, hx360_1, hx360_2, hx360_3, hx360_4, hx360_5⟩ := at_T42 HR1.out x5_1 p360 q360
        cases e360
        replace p360 := eq_true p360
        replace q360 := eq_true q360
        go_wp2
        repeat (go_quiet (fail); try go_wp2)
        go_ret
        exact ⟨by first | rfl | (simp; done) | (simp [*]; done), by repeat (first | exact Drawn0.refl _ | apply Drawn0.step)⟩
       ·rw [if_neg c7] at H
        have c7b0 : (!(((rd_T42 l0 x5_1).f0) == ((rd_T42 l1 x5_1).f0)) || (!(((rd_T42 l0 x5_1).f1) == ((rd_T42 l1 x5_1).f1)) || ((!(((rd_T42 l0 x5_1).f2.f0) == ((rd_T42 l1 x5_1).f2.f0)) || (!(((rd_T42 l0 x5_1).f2.f1) == ((rd_T42 l1 x5_1).f2.f1)) || (!(((rd_T42 l0 x5_1).f2.f2) == ((rd_T42 l1 x5_1).f2.f2)) || (!((((rd_T42 l0 x5_1).f2.f3).toList) == (((rd_T42 l1 x5_1).f2.f3).toList))))))))) = false := by simpa using c7
        clear c7
        have H' := Aside0.mk H
        clear H
        have p359 : 0 ≤ (x5_1 : Int) := of_decide_eq_true (by first | (with_reducible assumption) | assumption)
        have q359 : x5_1 < (l0.length : Int) := of_decide_eq_true (by first | (with_reducible assumption) | assumption)
        obtain ⟨ad359, e359, hx359_0, hx359_1, hx359_2, hx359_3, hx359_4, hx359_5⟩ := at_T42 HR0.out x5_1 p359 q359
        cases e359
        replace p359 := eq_true p359
        replace q359 := eq_true q359
        have p360 : 0 ≤ (x5_1 : Int) := of_decide_eq_true (by first | (with_reducible assumption) | assumption)
        have q360 : x5_1 < (l1.length : Int) := of_decide_eq_true (by first | (with_reducible assumption) | assumption)
        obtain ⟨ad360, e360, hx360_0, hx360_1, hx360_2, hx360_3, hx360_4, hx360_5⟩ := at_T42 HR1.out x5_1 p360 q360
        cases e360
        replace p360 := eq_true p360
        replace q360 := eq_true q360
        go_wp2
        repeat (go_quiet (fail); try go_wp2)
        go_roundg k1
        case measure => have := HK1.out; omega
        case rel => exact ⟨(wrap64 (x5_1 + 1)), (by first | rfl | (simp; done) | (simp [*]; done)), H', ⟨by have := HK1.out; omega⟩, by repeat (first | exact Drawn0.refl _ | apply Drawn0.step)⟩
      ·rw [if_neg c6] at H
       exact absurd H (by simp)
     ·rw [if_neg c5] at H
      exact absurd H (by simp)
    ·rw [if_neg c4] at H
     have c4b0 : decide (x5_1 < (l0.length : Int)) = false := decide_eq_false c4
     clear c4
     obtain rfl := Option.some.inj H
     go_wp2
     repeat (go_quiet (fail); try go_wp2)
     go_ret
     exact ⟨by first | rfl | (simp; done) | (simp [*]; done), by repeat (first | exact Drawn0.refl _ | apply Drawn0.step)⟩
 ·rw [if_neg c3] at H
  have c3b0 : ((l0.length : Int) == (l1.length : Int)) = false := beq_eq_false_iff_ne.mpr c3
  have c3b1 : ((l0.length : Int) != (l1.length : Int)) = true := bne_iff_ne.mpr c3
  have c3b2 : (l0.length == l1.length) = false := by first | simpa using c3 | (simp at c3 ⊢; omega)
  obtain rfl := Option.some.inj H
  go_enter Try.func33, Try.ntmps33
  go_wp2
  repeat (go_quiet (fail); try go_wp2)
  go_ret
  exact ⟨by first | rfl | (simp; done) | (simp [*]; done), by repeat (first | exact Drawn0.refl _ | apply Drawn0.step)⟩
end Go.Proofs.Ytmjeoknamoegpaa.P
namespace Go.Proofs.Ytmjeoknamoegpaa.P
open Go.RowKit Go.Proofs.YtmjeoknamoegpaaW.PrintWords Go.Proofs.YtmjeoknamoegpaaW.PrintLast Go.Proofs.YtmjeoknamoegpaaW.PrintMore
set_option linter.unusedVariables false
set_option linter.unusedSimpArgs false
/-- An op's rows, read. -/
structure OpC (w : World) (x : S30) (A2 : Option Addr) (c2 : Nat) (A3 : Option Addr) (c3 : Nat) (A4 : Option Addr) (c4 : Nat) : Prop where
 r2 : Kd.C (Kd.int .i32) w A2 x.f2.length x.f2
 l2 : x.f2.length ≤ c2
 r3 : Kd.C k40 w A3 x.f3.length x.f3
 l3 : x.f3.length ≤ c3
 r4 : Kd.C k42 w A4 x.f4.length x.f4
 l4 : x.f4.length ≤ c4
theorem OpC.below {w w' : World} {x : S30} {A2 : Option Addr} {c2 : Nat} {A3 : Option Addr} {c3 : Nat} {A4 : Option Addr} {c4 : Nat} (h : OpC w x A2 c2 A3 c3 A4 c4) (hb : Below w.heap.size w w') : OpC w' x A2 c2 A3 c3 A4 c4 :=
 ⟨Kd.C_below h.r2 hb, h.l2, Kd.C_below h.r3 hb, h.l3, Kd.C_below h.r4 hb, h.l4⟩
theorem eqO_of (x y : S30) : eqB (keyO x) (keyO y) = ((x.f0 == y.f0) && (x.f1 == y.f1) && eqB x.f2 y.f2 && eqB (keyA x.f3) (keyA y.f3) && eqB (keyC x.f4) (keyC y.f4)) := by
 rw [Bool.eq_iff_iff, eqB_true]
 simp only [keyO, Prod.mk.injEq, Bool.and_eq_true, beq_iff_eq, eqB_true, and_assoc]
set_option maxHeartbeats 2000000 in
set_option maxRecDepth 100000 in
theorem same1_eq (x y : S30) (a0 a1 : Int) (A2 : Option Addr) (c2 : Nat) (A3 : Option Addr) (c3 : Nat) (A4 : Option Addr) (c4 : Nat) (B2 : Option Addr) (d2 : Nat) (B3 : Option Addr) (d3 : Nat) (B4 : Option Addr) (d4 : Nat) (w : World)
  (hx : OpC w x A2 c2 A3 c3 A4 c4) (hy : OpC w y B2 d2 B3 d3 B4 d4) :
  Calls Try.prog 27 #[.agg #[.int .u8 a0, .int .i64 a1, .slice A2 x.f2.length c2, .slice A3 x.f3.length c3, .slice A4 x.f4.length c4], .agg #[.int .u8 a0, .int .i64 a1, .slice B2 y.f2.length d2, .slice B3 y.f3.length d3, .slice B4 y.f4.length d4]] w
   fun e w' => e = .returned (.bool (eqB x.f2 y.f2 && eqB (keyA x.f3) (keyA y.f3) && eqB (keyC x.f4) (keyC y.f4))) ∧ Below w.heap.size w w' := by
 have hb0 : Below w.heap.size w ((w.alloc (.cells #[.int .u8 a0, .int .i64 a1, .slice A2 x.f2.length c2, .slice A3 x.f3.length c3, .slice A4 x.f4.length c4] 30)).alloc (.cells #[.int .u8 a0, .int .i64 a1, .slice B2 y.f2.length d2, .slice B3 y.f3.length d3, .slice B4 y.f4.length d4] 30)) := below_alloc (below_alloc (Below.refl _ _) _) _
 have hx0 : ((w.alloc (.cells #[.int .u8 a0, .int .i64 a1, .slice A2 x.f2.length c2, .slice A3 x.f3.length c3, .slice A4 x.f4.length c4] 30)).alloc (.cells #[.int .u8 a0, .int .i64 a1, .slice B2 y.f2.length d2, .slice B3 y.f3.length d3, .slice B4 y.f4.length d4] 30)).heap[w.heap.size]? = some (.cells #[.int .u8 a0, .int .i64 a1, .slice A2 x.f2.length c2, .slice A3 x.f3.length c3, .slice A4 x.f4.length c4] 30 (0, 0)) :=
  ((below_alloc (Below.refl (w.alloc (.cells #[.int .u8 a0, .int .i64 a1, .slice A2 x.f2.length c2, .slice A3 x.f3.length c3, .slice A4 x.f4.length c4] 30)).heap.size _) _).block _ (by simp)).trans (heap_alloc_new w _)
 have hy0 : ((w.alloc (.cells #[.int .u8 a0, .int .i64 a1, .slice A2 x.f2.length c2, .slice A3 x.f3.length c3, .slice A4 x.f4.length c4] 30)).alloc (.cells #[.int .u8 a0, .int .i64 a1, .slice B2 y.f2.length d2, .slice B3 y.f3.length d3, .slice B4 y.f4.length d4] 30)).heap[w.heap.size + 1]? = some (.cells #[.int .u8 a0, .int .i64 a1, .slice B2 y.f2.length d2, .slice B3 y.f3.length d3, .slice B4 y.f4.length d4] 30 (0, 0)) := by
  have h := heap_alloc_new (w.alloc (.cells #[.int .u8 a0, .int .i64 a1, .slice A2 x.f2.length c2, .slice A3 x.f3.length c3, .slice A4 x.f4.length c4] 30)) (.cells #[.int .u8 a0, .int .i64 a1, .slice B2 y.f2.length d2, .slice B3 y.f3.length d3, .slice B4 y.f4.length d4] 30)
  simpa using h
 have HX := Aside0.mk (hx.below hb0)
 have HY := Aside0.mk (hy.below hb0)
 have HB := Aside0.mk hb0
 have HX0 := Aside0.mk hx0
 have HY0 := Aside0.mk hy0
 clear hx hy hb0 hx0 hy0
 have h28 := Aside0.mk (equalI_calls A2 c2 x.f2 B2 d2 y.f2 _ HX.out.r2 HX.out.l2 HY.out.r2 HY.out.l2)
 obtain ⟨b2, hb2⟩ : ∃ b, eqB x.f2 y.f2 = b := ⟨_, rfl⟩
 obtain ⟨b3, hb3⟩ : ∃ b, eqB (keyA x.f3) (keyA y.f3) = b := ⟨_, rfl⟩
 obtain ⟨b4, hb4⟩ : ∃ b, eqB (keyC x.f4) (keyC y.f4) = b := ⟨_, rfl⟩
 rw [hb2] at h28
 rw [hb2, hb3, hb4]
 have HB3 := Aside0.mk hb3
 have HB4 := Aside0.mk hb4
 clear hb2 hb3 hb4
 go_enter Try.func27, Try.ntmps27
 go_wp2_with fail
 go_at_call 28
 refine h28.out.mono ?_
 rintro e w1 ⟨rfl, hd⟩
 have hb1 := hd.below
 clear h28
 replace HX := Aside0.mk (HX.out.below hb1)
 replace HY := Aside0.mk (HY.out.below hb1)
 replace HB := Aside0.mk (below_step HB.out hb1)
 have hx1 := (hb1.block w.heap.size (blk_lt HX0.out)).trans HX0.out
 have hy1 := (hb1.block (w.heap.size + 1) (blk_lt HY0.out)).trans HY0.out
 clear HX0 HY0 hd hb1
 have h3 : w1.cell? ⟨w.heap.size, 3, none⟩ = some (.slice A3 x.f3.length c3) := by simp [World.cell?, hx1]
 have h4 : w1.cell? ⟨w.heap.size, 4, none⟩ = some (.slice A4 x.f4.length c4) := by simp [World.cell?, hx1]
 have k3 : w1.cell? ⟨w.heap.size + 1, 3, none⟩ = some (.slice B3 y.f3.length d3) := by simp [World.cell?, hy1]
 have k4 : w1.cell? ⟨w.heap.size + 1, 4, none⟩ = some (.slice B4 y.f4.length d4) := by simp [World.cell?, hy1]
 have HX0 := Aside0.mk hx1
 have HY0 := Aside0.mk hy1
 clear hx1 hy1
 cases b2 with
 | false =>
  go_wp2_with fail
  go_ret
  exact ⟨rfl, HB.out⟩
 | true =>
  have h29 := Aside0.mk (equalA_calls A3 c3 x.f3 B3 d3 y.f3 _ HX.out.r3 HX.out.l3 HY.out.r3 HY.out.l3)
  rw [HB3.out] at h29
  go_wp2_with fail
  go_at_call 29
  refine h29.out.mono ?_
  rintro e w2 ⟨rfl, hb1⟩
  clear h29 h3 h4 k3 k4
  replace HX := Aside0.mk (HX.out.below hb1)
  replace HY := Aside0.mk (HY.out.below hb1)
  replace HB := Aside0.mk (below_step HB.out hb1)
  have hx1 := (hb1.block w.heap.size (blk_lt HX0.out)).trans HX0.out
  have hy1 := (hb1.block (w.heap.size + 1) (blk_lt HY0.out)).trans HY0.out
  clear HX0 HY0 hb1
  have h4 : w2.cell? ⟨w.heap.size, 4, none⟩ = some (.slice A4 x.f4.length c4) := by simp [World.cell?, hx1]
  have k4 : w2.cell? ⟨w.heap.size + 1, 4, none⟩ = some (.slice B4 y.f4.length d4) := by simp [World.cell?, hy1]
  clear hx1 hy1
  cases b3 with
  | false =>
   go_wp2_with fail
   go_ret
   exact ⟨rfl, HB.out⟩
  | true =>
   have h30 := Aside0.mk (equalC_calls A4 c4 x.f4 B4 d4 y.f4 _ HX.out.r4 HX.out.l4 HY.out.r4 HY.out.l4)
   rw [HB4.out] at h30
   go_wp2_with fail
   go_at_call 30
   refine h30.out.mono ?_
   rintro e w3 ⟨rfl, hb1⟩
   clear h30 h4 k4
   replace HB := Aside0.mk (below_step HB.out hb1)
   clear hb1
   cases b4
   all_goals
    go_wp2_with fail
    go_ret
    exact ⟨rfl, HB.out⟩
set_option maxHeartbeats 1000000 in
set_option maxRecDepth 100000 in
theorem same1_calls (x y : S30) (A2 : Option Addr) (c2 : Nat) (A3 : Option Addr) (c3 : Nat) (A4 : Option Addr) (c4 : Nat) (B2 : Option Addr) (d2 : Nat) (B3 : Option Addr) (d3 : Nat) (B4 : Option Addr) (d4 : Nat) (w : World)
  (hx : OpC w x A2 c2 A3 c3 A4 c4) (hy : OpC w y B2 d2 B3 d3 B4 d4) :
  Calls Try.prog 27 #[.agg #[.int .u8 x.f0, .int .i64 x.f1, .slice A2 x.f2.length c2, .slice A3 x.f3.length c3, .slice A4 x.f4.length c4], .agg #[.int .u8 y.f0, .int .i64 y.f1, .slice B2 y.f2.length d2, .slice B3 y.f3.length d3, .slice B4 y.f4.length d4]] w
   fun e w' => e = .returned (.bool (eqB (keyO x) (keyO y))) ∧ Below w.heap.size w w' := by
 rw [eqO_of]
 by_cases h0 : x.f0 = y.f0
 ·by_cases h1 : x.f1 = y.f1
  ·rw [beq_iff_eq.2 h0, beq_iff_eq.2 h1, h0, h1]
   exact same1_eq x y y.f0 y.f1 A2 c2 A3 c3 A4 c4 B2 d2 B3 d3 B4 d4 w hx hy
  ·have h0b := beq_iff_eq.2 h0
   have h1b := beq_eq_false_iff_ne.2 h1
   rw [h1b]
   clear hx hy
   go_enter Try.func27, Try.ntmps27
   go_wp2_with fail
   go_ret
   exact ⟨by simp, below_alloc (below_alloc (Below.refl _ _) _) _⟩
 ·have h0b := beq_eq_false_iff_ne.2 h0
  rw [h0b]
  clear hx hy
  go_enter Try.func27, Try.ntmps27
  go_wp2_with fail
  go_ret
  exact ⟨by simp, below_alloc (below_alloc (Below.refl _ _) _) _⟩
set_option maxHeartbeats 4000000 in
set_option maxRecDepth 100000 in
theorem equalFunc_ne (A0 : Option Addr) (c0 : Nat) (l0 : List S30) (A1 : Option Addr) (c1 : Nat) (l1 : List S30) (w : World) (hl : l0.length ≠ l1.length) :
  Calls Try.prog 26 #[.slice A0 l0.length c0, .slice A1 l1.length c1, .func (.func 27) #[] #[]] w fun e w' => e = .returned (.bool (eqB (l0.map keyO) (l1.map keyO))) ∧ Below w.heap.size w w' := by
 have hb : ((l0.length : Int) == (l1.length : Int)) = false := beq_eq_false_iff_ne.2 (by omega)
 have he : eqB (l0.map keyO) (l1.map keyO) = false := eqB_false.2 (fun h => hl (by simpa using congrArg List.length h))
 rw [he]
 go_enter Try.func26, Try.ntmps26
 go_wp2_with fail
 go_ret
 exact ⟨rfl, Below.refl _ _⟩
set_option maxHeartbeats 4000000 in
set_option maxRecDepth 100000 in
theorem equalFunc_eq (A0 : Option Addr) (c0 : Nat) (l0 : List S30) (A1 : Option Addr) (c1 : Nat) (l1 : List S30) (w : World) (hr0 : Kd.C k30 w A0 l0.length l0) (hc0 : l0.length ≤ c0) (hr1 : Kd.C k30 w A1 l1.length l1) (hc1 : l1.length ≤ c1) (hl : l0.length = l1.length) (hs : l0.length ≤ 3000000) :
  Calls Try.prog 26 #[.slice A0 l0.length c0, .slice A1 l1.length c1, .func (.func 27) #[] #[]] w fun e w' => e = .returned (.bool (eqB (l0.map keyO) (l1.map keyO))) ∧ Below w.heap.size w w' := by
 have hb : ((l0.length : Int) != (l1.length : Int)) = false := by rw [hl]; simp
 have HR0 := Aside0.mk hr0
 have HR1 := Aside0.mk hr1
 have HL := Aside0.mk hl
 have HSZ := Aside0.mk hs
 clear hr0 hr1 hl hs
 go_enter Try.func26, Try.ntmps26
 go_wp2_with fail
 go_loopw [17] (fun i wr => ∃ k : Nat, k ≤ l0.length ∧ i = .int .i64 k ∧ Aside0 (Below w.heap.size w wr ∧ eqB (l0.map keyO) (l1.map keyO) = eqB ((l0.drop k).map keyO) ((l1.drop k).map keyO))) (fun i _ => l0.length - (intOf i).toNat)
 case atStart => exact ⟨0, Nat.zero_le _, rfl, ⟨Below.refl _ _, rfl⟩⟩
 case round =>
  obtain ⟨k, hk, rfl, HI⟩ := hrel
  by_cases hlt : k < l0.length
  ·have hlt1 : k < l1.length := by have := HL.out; omega
   have hB := HI.out.1
   obtain ⟨ad, A2, c2, A3, c3, A4, c4, eA, e0, e1, e2, e3, e4, l2, f2, l3, f3, l4, f4⟩ := at_T30 (Kd.C_below HR0.out hB) (k : Int) (by omega) (by omega)
   obtain ⟨bd, B2, d2, B3, d3, B4, d4, eB, g0, g1, g2, g3, g4, m2, h2, m3, h3, m4, h4⟩ := at_T30 (Kd.C_below HR1.out hB) (k : Int) (by omega) (by omega)
   rw [rd30_get l0 k hlt] at e0 e1 e2 e3 e4 l2 f2 l3 f3 l4 f4
   rw [rd30_get l1 k hlt1] at g0 g1 g2 g3 g4 m2 h2 m3 h3 m4 h4
   simp only [Int.toNat_natCast] at e0 e1 e2 e3 e4 g0 g1 g2 g3 g4
   have q1 : (k : Int) < (l0.length : Int) := by omega
   have q2 : (k : Int) < (l1.length : Int) := by omega
   have q0 : (0 : Int) ≤ (k : Int) := Int.natCast_nonneg k
   subst eA
   subst eB
   obtain ⟨x, hx⟩ : ∃ x, l0[k] = x := ⟨_, rfl⟩
   obtain ⟨y, hy⟩ : ∃ y, l1[k] = y := ⟨_, rfl⟩
   rw [hx] at e0 e1 e2 e3 e4 l2 f2 l3 f3 l4 f4
   rw [hy] at g0 g1 g2 g3 g4 m2 h2 m3 h3 m4 h4
   have k0 := ((below_alloc (Below.refl wr.heap.size wr) (.cells #[.int .u8 x.f0, .int .i64 x.f1, .slice A2 x.f2.length c2, .slice A3 x.f3.length c3, .slice A4 x.f4.length c4] 30)).cell (World.block_lt_of_cell? _ _ g0)).trans g0
   have k1 := ((below_alloc (Below.refl wr.heap.size wr) (.cells #[.int .u8 x.f0, .int .i64 x.f1, .slice A2 x.f2.length c2, .slice A3 x.f3.length c3, .slice A4 x.f4.length c4] 30)).cell (World.block_lt_of_cell? _ _ g1)).trans g1
   have k2 := ((below_alloc (Below.refl wr.heap.size wr) (.cells #[.int .u8 x.f0, .int .i64 x.f1, .slice A2 x.f2.length c2, .slice A3 x.f3.length c3, .slice A4 x.f4.length c4] 30)).cell (World.block_lt_of_cell? _ _ g2)).trans g2
   have k3 := ((below_alloc (Below.refl wr.heap.size wr) (.cells #[.int .u8 x.f0, .int .i64 x.f1, .slice A2 x.f2.length c2, .slice A3 x.f3.length c3, .slice A4 x.f4.length c4] 30)).cell (World.block_lt_of_cell? _ _ g3)).trans g3
   have k4 := ((below_alloc (Below.refl wr.heap.size wr) (.cells #[.int .u8 x.f0, .int .i64 x.f1, .slice A2 x.f2.length c2, .slice A3 x.f3.length c3, .slice A4 x.f4.length c4] 30)).cell (World.block_lt_of_cell? _ _ g4)).trans g4
   have HX := Aside0.mk (OpC.mk f2 l2 f3 l3 f4 l4)
   have HY := Aside0.mk (OpC.mk h2 m2 h3 m3 h4 m4)
   have HE := Aside0.mk hx
   have HF := Aside0.mk hy
   clear hB f2 l2 f3 l3 f4 l4 h2 m2 h3 m3 h4 m4 hx hy
   go_wp2_with fail
   have hb2 := below_alloc (below_alloc (Below.refl wr.heap.size wr) (.cells #[.int .u8 x.f0, .int .i64 x.f1, .slice A2 x.f2.length c2, .slice A3 x.f3.length c3, .slice A4 x.f4.length c4] 30)) (.cells #[.int .u8 y.f0, .int .i64 y.f1, .slice B2 y.f2.length d2, .slice B3 y.f3.length d3, .slice B4 y.f4.length d4] 30)
   generalize (wr.alloc (.cells #[.int .u8 x.f0, .int .i64 x.f1, .slice A2 x.f2.length c2, .slice A3 x.f3.length c3, .slice A4 x.f4.length c4] 30)).alloc (.cells #[.int .u8 y.f0, .int .i64 y.f1, .slice B2 y.f2.length d2, .slice B3 y.f3.length d3, .slice B4 y.f4.length d4] 30) = w2 at hb2 ⊢
   refine (same1_calls x y A2 c2 A3 c3 A4 c4 B2 d2 B3 d3 B4 d4 w2 (HX.out.below hb2) (HY.out.below hb2)).mono ?_
   rintro e w3 ⟨rfl, hb3⟩
   have HBB := Aside0.mk (below_step HI.out.1 (below_step hb2 hb3))
   obtain ⟨b, hbb⟩ : ∃ b, eqB (keyO x) (keyO y) = b := ⟨_, rfl⟩
   rw [hbb]
   cases b with
   | false =>
    have hans : eqB (l0.map keyO) (l1.map keyO) = false := by
     rw [HI.out.2]
     refine eqB_false.2 (fun h => ?_)
     have h2 := ((map_drop_eq keyO l0 l1 k hlt hlt1).1 h).1
     rw [HE.out, HF.out] at h2
     exact eqB_false.1 hbb h2
    have HANS := Aside0.mk hans
    clear hbb hans hb2 hb3 HI e0 e1 e2 e3 e4 g0 g1 g2 g3 g4 k0 k1 k2 k3 k4
    go_wp2_with fail
    go_ret
    exact ⟨by rw [HANS.out]; rfl, HBB.out⟩
   | true =>
    have hans : eqB (l0.map keyO) (l1.map keyO) = eqB ((l0.drop (k + 1)).map keyO) ((l1.drop (k + 1)).map keyO) := by
     rw [HI.out.2, Bool.eq_iff_iff, eqB_true, eqB_true, map_drop_eq keyO l0 l1 k hlt hlt1, HE.out, HF.out]
     exact ⟨fun h => h.2, fun h => ⟨eqB_true.1 hbb, h⟩⟩
    have HANS := Aside0.mk hans
    clear hbb hans hb2 hb3 HI e0 e1 e2 e3 e4 g0 g1 g2 g3 g4 k0 k1 k2 k3 k4
    have hsz := HSZ.out
    have HNEW := Aside0.mk (And.intro HBB.out HANS.out)
    go_wp2_with fail
    go_roundw
    case rel => exact ⟨k + 1, by omega, by go_num, HNEW⟩
    case measure => simp [intOf]; omega
  ·obtain rfl : k = l0.length := by omega
   go_wp2_with fail
   go_ret
   refine ⟨?_, HI.out.1⟩
   have h := HI.out.2
   rw [List.drop_length, HL.out, List.drop_length] at h
   rw [h]
   rfl
def ops_Same.f (l0 : List (S30)) (l1 : List (S30)) : Option (Bool) := if l0.length ≤ 3000000 then some (eqB (l0.map keyO) (l1.map keyO)) else none
set_option maxHeartbeats 4000000 in
set_option maxRecDepth 100000 in
theorem ops_Same.calls (A0 : Option Addr) (c0 : Nat) (l0 : List (S30)) (A1 : Option Addr) (c1 : Nat) (l1 : List (S30)) (r : Bool) (w : World) (hr0 : Kd.C k30 w A0 l0.length l0) (hc0 : l0.length ≤ c0) (hr1 : Kd.C k30 w A1 l1.length l1) (hc1 : l1.length ≤ c1) (h : ops_Same.f l0 l1 = some r) :
  Calls Try.prog 11 #[.slice A0 l0.length c0, .slice A1 l1.length c1] w fun e w' => e = .returned (.bool r) ∧ Below w.heap.size w w' := by
 have hE : Aside0 (Calls Try.prog 26 #[.slice A0 l0.length c0, .slice A1 l1.length c1, .func (.func 27) #[] #[]] w fun e w' => e = .returned (.bool r) ∧ Below w.heap.size w w') := by
  unfold ops_Same.f at h
  split at h
  ·rename_i hs
   obtain rfl := Option.some.inj h
   by_cases hl : l0.length = l1.length
   ·exact ⟨equalFunc_eq A0 c0 l0 A1 c1 l1 w hr0 hc0 hr1 hc1 hl hs⟩
   ·exact ⟨equalFunc_ne A0 c0 l0 A1 c1 l1 w hl⟩
  ·cases h
 clear hr0 hr1 h
 go_enter Try.func11, Try.ntmps11
 go_wp2_with fail
 go_at_call 26
 refine hE.out.mono ?_
 rintro e w3 ⟨rfl, hb⟩
 have HBB := Aside0.mk hb
 clear hE hb
 go_wp2_with fail
 go_ret
 exact ⟨rfl, HBB.out⟩
end Go.Proofs.Ytmjeoknamoegpaa.P
namespace Go.Proofs.Ytmjeoknamoegpaa.P
open Go.RowKit Go.Proofs.YtmjeoknamoegpaaW.PrintWords Go.Proofs.YtmjeoknamoegpaaW.PrintLast Go.Proofs.YtmjeoknamoegpaaW.PrintMore
set_option linter.unusedVariables false
set_option linter.unusedSimpArgs false
theorem refI_loop (a b : List Int) (hl : a.length = b.length) (hs : a.length ≤ 9223372036854775807) : ∀ (k i : Nat), i ≤ a.length → a.length - i < k → rubricref01_Same.l0 k a b (i : Int) = some (eqB (a.drop i) (b.drop i))
 | 0, i, _, hk => by omega
 | k + 1, i, hi, hk => by
  unfold rubricref01_Same.l0
  by_cases h : i < a.length
  ·rw [if_pos (by omega), if_pos (by omega), if_pos (by omega), rd_get a i h, rd_get b i (by omega)]
   have ih := refI_loop a b hl hs k (i + 1) (by omega) (by omega)
   have hm := map_drop_eq id a b i h (by omega)
   simp only [List.map_id, id] at hm
   by_cases hd : a[i] = b[i]
   ·rw [if_pos hd, wrap_succ i _ h hs, ih, eqB_congr (hm.trans ⟨fun h => h.2, fun h => ⟨hd, h⟩⟩)]
   ·rw [if_neg hd, eqB_false.2 (fun h => hd (hm.1 h).1)]
  ·rw [if_neg (by omega)]
   rw [List.drop_eq_nil_of_le (by omega), List.drop_eq_nil_of_le (by omega), eqB_true.2 rfl]
theorem refI (a b : List Int) (hs : a.length ≤ 9223372036854775807) (k : Nat) (hk : a.length < k) : rubricref01_Same.f k a b = some (eqB a b) := by
 unfold rubricref01_Same.f
 by_cases hl : a.length = b.length
 ·rw [if_pos (by omega)]
  have := refI_loop a b hl hs k 0 (by omega) (by omega)
  simpa using this
 ·rw [if_neg (by omega), eqB_false.2 (fun h => hl (congrArg List.length h))]
theorem refA_loop (a b : List S40) (hl : a.length = b.length) (hs : a.length ≤ 9223372036854775807) : ∀ (k i : Nat), i ≤ a.length → a.length - i < k → rubricref05_Same.l0 k a b (i : Int) = some (eqB (keyA (a.drop i)) (keyA (b.drop i)))
 | 0, i, _, hk => by omega
 | k + 1, i, hi, hk => by
  unfold rubricref05_Same.l0
  by_cases h : i < a.length
  ·rw [if_pos (by omega), if_pos (by omega), if_pos (by omega), rd40_get a i h, rd40_get b i (by omega)]
   have ih := refA_loop a b hl hs k (i + 1) (by omega) (by omega)
   have hm := map_drop_eq nrmA a b i h (by omega)
   by_cases hd : nrmA a[i] = nrmA b[i]
   ·rw [if_neg (fun hc => (differsA _ _).1 (by simpa only [Bool.or_assoc] using hc) hd), wrap_succ i _ h hs, ih]
    exact congrArg some (eqB_congr (hm.trans ⟨fun h => h.2, fun h => ⟨hd, h⟩⟩)).symm
   ·rw [if_pos (by simpa only [Bool.or_assoc] using (differsA _ _).2 hd)]
    exact congrArg some (eqB_false.2 (fun h => hd (hm.1 h).1)).symm
  ·rw [if_neg (by omega)]
   rw [List.drop_eq_nil_of_le (by omega), List.drop_eq_nil_of_le (by omega), eqB_true.2 rfl]
theorem refA (a b : List S40) (hs : a.length ≤ 9223372036854775807) (k : Nat) (hk : a.length < k) : rubricref05_Same.f k a b = some (eqB (keyA a) (keyA b)) := by
 unfold rubricref05_Same.f
 by_cases hl : a.length = b.length
 ·rw [if_pos (by omega)]
  have := refA_loop a b hl hs k 0 (by omega) (by omega)
  simp only [List.drop_zero] at this
  rw [show ((0 : Nat) : Int) = 0 from rfl] at this
  exact this
 ·rw [if_neg (by omega), eqB_false.2 (fun h => hl (by rw [← keyA_length a, ← keyA_length b, h]))]
theorem refC_loop (a b : List S42) (hl : a.length = b.length) (hs : a.length ≤ 9223372036854775807) : ∀ (k i : Nat), i ≤ a.length → a.length - i < k → rubricref06_Same.l0 k a b (i : Int) = some (eqB (keyC (a.drop i)) (keyC (b.drop i)))
 | 0, i, _, hk => by omega
 | k + 1, i, hi, hk => by
  unfold rubricref06_Same.l0
  by_cases h : i < a.length
  ·rw [if_pos (by omega), if_pos (by omega), if_pos (by omega), rd42_get a i h, rd42_get b i (by omega)]
   have ih := refC_loop a b hl hs k (i + 1) (by omega) (by omega)
   have hm := map_drop_eq nrmC a b i h (by omega)
   by_cases hd : nrmC a[i] = nrmC b[i]
   ·rw [if_neg (fun hc => (differsC _ _).1 (by simpa only [Bool.or_assoc] using hc) hd), wrap_succ i _ h hs, ih]
    exact congrArg some (eqB_congr (hm.trans ⟨fun h => h.2, fun h => ⟨hd, h⟩⟩)).symm
   ·rw [if_pos (by simpa only [Bool.or_assoc] using (differsC _ _).2 hd)]
    exact congrArg some (eqB_false.2 (fun h => hd (hm.1 h).1)).symm
  ·rw [if_neg (by omega)]
   rw [List.drop_eq_nil_of_le (by omega), List.drop_eq_nil_of_le (by omega), eqB_true.2 rfl]
theorem refC (a b : List S42) (hs : a.length ≤ 9223372036854775807) (k : Nat) (hk : a.length < k) : rubricref06_Same.f k a b = some (eqB (keyC a) (keyC b)) := by
 unfold rubricref06_Same.f
 by_cases hl : a.length = b.length
 ·rw [if_pos (by omega)]
  have := refC_loop a b hl hs k 0 (by omega) (by omega)
  simp only [List.drop_zero] at this
  rw [show ((0 : Nat) : Int) = 0 from rfl] at this
  exact this
 ·rw [if_neg (by omega), eqB_false.2 (fun h => hl (by rw [← keyC_length a, ← keyC_length b, h]))]
theorem refI_calls (A0 : Option Addr) (c0 : Nat) (l0 : List Int) (A1 : Option Addr) (c1 : Nat) (l1 : List Int) (w : World) (hr0 : Kd.C (Kd.int .i32) w A0 l0.length l0) (hc0 : l0.length ≤ c0) (hr1 : Kd.C (Kd.int .i32) w A1 l1.length l1) (hc1 : l1.length ≤ c1) :
  Calls Try.prog 31 #[.slice A0 l0.length c0, .slice A1 l1.length c1] w fun e w' => e = .returned (.bool (eqB l0 l1)) ∧ Below w.heap.size w w' :=
 (rubricref01_Same.calls (l0.length + 1) A0 c0 l0 A1 c1 l1 _ w hr0 hc0 hr1 hc1 (refI l0 l1 hr0.2.1 _ (by omega))).mono fun e w' h => ⟨h.1, h.2.below⟩
theorem refA_calls (A0 : Option Addr) (c0 : Nat) (l0 : List S40) (A1 : Option Addr) (c1 : Nat) (l1 : List S40) (w : World) (hr0 : Kd.C k40 w A0 l0.length l0) (hc0 : l0.length ≤ c0) (hr1 : Kd.C k40 w A1 l1.length l1) (hc1 : l1.length ≤ c1) :
  Calls Try.prog 32 #[.slice A0 l0.length c0, .slice A1 l1.length c1] w fun e w' => e = .returned (.bool (eqB (keyA l0) (keyA l1))) ∧ Below w.heap.size w w' :=
 (rubricref05_Same.calls (l0.length + 1) A0 c0 l0 A1 c1 l1 _ w hr0 hc0 hr1 hc1 (refA l0 l1 hr0.2.1 _ (by omega))).mono fun e w' h => ⟨h.1, h.2.below⟩
theorem refC_calls (A0 : Option Addr) (c0 : Nat) (l0 : List S42) (A1 : Option Addr) (c1 : Nat) (l1 : List S42) (w : World) (hr0 : Kd.C k42 w A0 l0.length l0) (hc0 : l0.length ≤ c0) (hr1 : Kd.C k42 w A1 l1.length l1) (hc1 : l1.length ≤ c1) :
  Calls Try.prog 33 #[.slice A0 l0.length c0, .slice A1 l1.length c1] w fun e w' => e = .returned (.bool (eqB (keyC l0) (keyC l1))) ∧ Below w.heap.size w w' :=
 (rubricref06_Same.calls (l0.length + 1) A0 c0 l0 A1 c1 l1 _ w hr0 hc0 hr1 hc1 (refC l0 l1 hr0.2.1 _ (by omega))).mono fun e w' h => ⟨h.1, h.2.below⟩
set_option maxHeartbeats 4000000 in
set_option maxRecDepth 100000 in
theorem refSame_ne (A0 : Option Addr) (c0 : Nat) (l0 : List S30) (A1 : Option Addr) (c1 : Nat) (l1 : List S30) (w : World) (hl : l0.length ≠ l1.length) :
  Calls Try.prog 16 #[.slice A0 l0.length c0, .slice A1 l1.length c1] w fun e w' => e = .returned (.bool (eqB (l0.map keyO) (l1.map keyO))) ∧ Below w.heap.size w w' := by
 have hb : ((l0.length : Int) != (l1.length : Int)) = true := bne_iff_ne.2 (by omega)
 have he : eqB (l0.map keyO) (l1.map keyO) = false := eqB_false.2 (fun h => hl (by simpa using congrArg List.length h))
 rw [he]
 go_enter Try.func16, Try.ntmps16
 go_wp2_with fail
 go_ret
 exact ⟨rfl, Below.refl _ _⟩
set_option maxHeartbeats 4000000 in
set_option maxRecDepth 100000 in
theorem refSame_eq (A0 : Option Addr) (c0 : Nat) (l0 : List S30) (A1 : Option Addr) (c1 : Nat) (l1 : List S30) (w : World) (hr0 : Kd.C k30 w A0 l0.length l0) (hc0 : l0.length ≤ c0) (hr1 : Kd.C k30 w A1 l1.length l1) (hc1 : l1.length ≤ c1) (hl : l0.length = l1.length) (hs : l0.length ≤ 3000000) :
  Calls Try.prog 16 #[.slice A0 l0.length c0, .slice A1 l1.length c1] w fun e w' => e = .returned (.bool (eqB (l0.map keyO) (l1.map keyO))) ∧ Below w.heap.size w w' := by
 have hb : ((l0.length : Int) != (l1.length : Int)) = false := by rw [hl]; simp
 have HR0 := Aside0.mk hr0
 have HR1 := Aside0.mk hr1
 have HL := Aside0.mk hl
 have HSZ := Aside0.mk hs
 clear hr0 hr1 hl hs
 go_enter Try.func16, Try.ntmps16
 go_wp2_with fail
 go_loopw [5] (fun i wr => ∃ k : Nat, k ≤ l0.length ∧ i = .int .i64 k ∧ Aside0 (Below w.heap.size w wr ∧ eqB (l0.map keyO) (l1.map keyO) = eqB ((l0.drop k).map keyO) ((l1.drop k).map keyO))) (fun i _ => l0.length - (intOf i).toNat)
 case atStart => exact ⟨0, Nat.zero_le _, rfl, ⟨Below.refl _ _, rfl⟩⟩
 case round =>
  obtain ⟨k, hk, rfl, HI⟩ := hrel
  by_cases hlt : k < l0.length
  ·have hlt1 : k < l1.length := by have := HL.out; omega
   have hB := HI.out.1
   obtain ⟨ad, A2, c2, A3, c3, A4, c4, eA, e0, e1, e2, e3, e4, l2, f2, l3, f3, l4, f4⟩ := at_T30 (Kd.C_below HR0.out hB) (k : Int) (by omega) (by omega)
   obtain ⟨bd, B2, d2, B3, d3, B4, d4, eB, g0, g1, g2, g3, g4, m2, h2, m3, h3, m4, h4⟩ := at_T30 (Kd.C_below HR1.out hB) (k : Int) (by omega) (by omega)
   rw [rd30_get l0 k hlt] at e0 e1 e2 e3 e4 l2 f2 l3 f3 l4 f4
   rw [rd30_get l1 k hlt1] at g0 g1 g2 g3 g4 m2 h2 m3 h3 m4 h4
   simp only [Int.toNat_natCast] at e0 e1 e2 e3 e4 g0 g1 g2 g3 g4
   have q1 : (k : Int) < (l0.length : Int) := by omega
   have q2 : (k : Int) < (l1.length : Int) := by omega
   have q0 : (0 : Int) ≤ (k : Int) := Int.natCast_nonneg k
   subst eA
   subst eB
   obtain ⟨x, hx⟩ : ∃ x, l0[k] = x := ⟨_, rfl⟩
   obtain ⟨y, hy⟩ : ∃ y, l1[k] = y := ⟨_, rfl⟩
   rw [hx] at e0 e1 e2 e3 e4 l2 f2 l3 f3 l4 f4
   rw [hy] at g0 g1 g2 g3 g4 m2 h2 m3 h3 m4 h4
   have HX := Aside0.mk (OpC.mk f2 l2 f3 l3 f4 l4)
   have HY := Aside0.mk (OpC.mk h2 m2 h3 m3 h4 m4)
   have HE := Aside0.mk hx
   have HF := Aside0.mk hy
   clear hB f2 l2 f3 l3 f4 l4 h2 m2 h3 m3 h4 m4 hx hy
   go_upto_region 6 with (fail)
   have EW : Aside0 (∀ W', Below wr.heap.size wr W' → W'.cell? (ad.add (k * 5)) = some (.int .u8 x.f0) ∧ W'.cell? ⟨(ad.add (k * 5)).block, (ad.add (k * 5)).off + 1, none⟩ = some (.int .i64 x.f1) ∧ W'.cell? ⟨(ad.add (k * 5)).block, (ad.add (k * 5)).off + 2, none⟩ = some (.slice A2 x.f2.length c2) ∧ W'.cell? ⟨(ad.add (k * 5)).block, (ad.add (k * 5)).off + 3, none⟩ = some (.slice A3 x.f3.length c3) ∧ W'.cell? ⟨(ad.add (k * 5)).block, (ad.add (k * 5)).off + 4, none⟩ = some (.slice A4 x.f4.length c4) ∧ W'.cell? (bd.add (k * 5)) = some (.int .u8 y.f0) ∧ W'.cell? ⟨(bd.add (k * 5)).block, (bd.add (k * 5)).off + 1, none⟩ = some (.int .i64 y.f1) ∧ W'.cell? ⟨(bd.add (k * 5)).block, (bd.add (k * 5)).off + 2, none⟩ = some (.slice B2 y.f2.length d2) ∧ W'.cell? ⟨(bd.add (k * 5)).block, (bd.add (k * 5)).off + 3, none⟩ = some (.slice B3 y.f3.length d3) ∧ W'.cell? ⟨(bd.add (k * 5)).block, (bd.add (k * 5)).off + 4, none⟩ = some (.slice B4 y.f4.length d4)) := ⟨fun W' hb => ⟨(hb.cell (World.block_lt_of_cell? _ _ e0)).trans e0, (hb.cell (World.block_lt_of_cell? _ _ e1)).trans e1, (hb.cell (World.block_lt_of_cell? _ _ e2)).trans e2, (hb.cell (World.block_lt_of_cell? _ _ e3)).trans e3, (hb.cell (World.block_lt_of_cell? _ _ e4)).trans e4, (hb.cell (World.block_lt_of_cell? _ _ g0)).trans g0, (hb.cell (World.block_lt_of_cell? _ _ g1)).trans g1, (hb.cell (World.block_lt_of_cell? _ _ g2)).trans g2, (hb.cell (World.block_lt_of_cell? _ _ g3)).trans g3, (hb.cell (World.block_lt_of_cell? _ _ g4)).trans g4⟩⟩
   refine start_ (n := 12) (S := fun w' => w'.cell? (ad.add (k * 5)) = some (.int .u8 x.f0) ∧ w'.cell? ⟨(ad.add (k * 5)).block, (ad.add (k * 5)).off + 1, none⟩ = some (.int .i64 x.f1) ∧ w'.cell? ⟨(ad.add (k * 5)).block, (ad.add (k * 5)).off + 2, none⟩ = some (.slice A2 x.f2.length c2) ∧ w'.cell? ⟨(ad.add (k * 5)).block, (ad.add (k * 5)).off + 3, none⟩ = some (.slice A3 x.f3.length c3) ∧ w'.cell? ⟨(ad.add (k * 5)).block, (ad.add (k * 5)).off + 4, none⟩ = some (.slice A4 x.f4.length c4) ∧ w'.cell? (bd.add (k * 5)) = some (.int .u8 y.f0) ∧ w'.cell? ⟨(bd.add (k * 5)).block, (bd.add (k * 5)).off + 1, none⟩ = some (.int .i64 y.f1) ∧ w'.cell? ⟨(bd.add (k * 5)).block, (bd.add (k * 5)).off + 2, none⟩ = some (.slice B2 y.f2.length d2) ∧ w'.cell? ⟨(bd.add (k * 5)).block, (bd.add (k * 5)).off + 3, none⟩ = some (.slice B3 y.f3.length d3) ∧ w'.cell? ⟨(bd.add (k * 5)).block, (bd.add (k * 5)).off + 4, none⟩ = some (.slice B4 y.f4.length d4)) (ds := [11]) #[false, false, false, false, false, false, false, false, false, false, false, false] (by kernel_rfl) rfl rfl (EW.out _ (below_drew (Below.refl wr.heap.size wr))) (fun hHeld => ?_)
   have hb := below_drew (Below.refl wr.heap.size wr)
   generalize wr.drew = w3 at hb hHeld ⊢
   have HWB := Aside0.mk hb
   clear hb e0 e1 e2 e3 e4 g0 g1 g2 g3 g4
   refine pure_ (i := 0) (N := some 19) (v := ?_) (a' := ?_) #[true, false, false, false, false, false, false, false, false, false, false, false] rfl rfl (any_of rfl (by kernel_rfl)) (fun _ _ _ h => h) (Or.inl ⟨by rfl, ?_⟩) ?_ ?_
   rotate_left
   ·intro w'
    go_simp
    with_reducible rfl
   rotate_left
   ·simp only [Act.put, List.setIfInBounds_toArray, List.set_cons_zero, List.set_cons_succ, i64_w, i32_w]
    rfl
   refine pure_ (i := 1) (N := some 20) (v := ?_) (a' := ?_) #[true, true, false, false, false, false, false, false, false, false, false, false] rfl rfl (any_of rfl (by kernel_rfl)) (fun _ _ _ h => h) (Or.inl ⟨by rfl, ?_⟩) ?_ ?_
   rotate_left
   ·intro w'
    go_simp
    with_reducible rfl
   rotate_left
   ·simp only [Act.put, List.setIfInBounds_toArray, List.set_cons_zero, List.set_cons_succ, i64_w, i32_w]
    rfl
   refine pure_ (i := 2) (N := some 21) (v := ?_) (a' := ?_) #[true, true, true, false, false, false, false, false, false, false, false, false] rfl rfl (any_of rfl (by kernel_rfl)) (fun _ _ _ h => h) (Or.inl ⟨by rfl, ?_⟩) ?_ ?_
   rotate_left
   ·intro w'
    go_simp
    with_reducible rfl
   rotate_left
   ·simp only [Act.put, List.setIfInBounds_toArray, List.set_cons_zero, List.set_cons_succ, i64_w, i32_w]
    rfl
   refine take_ (i := 3) (N := some 22) (v := ?_) (a' := ?_) #[true, true, true, true, false, false, false, false, false, false, false, false] rfl rfl (take_of rfl (by kernel_rfl)) (fun _ _ _ h => h) (Or.inl ⟨by rfl, ?_⟩) hHeld ?_ ?_
   rotate_left
   ·rintro w' ⟨s0, s1, s2, s3, s4, s5, s6, s7, s8, s9⟩
    go_simp
    with_reducible rfl
   rotate_left
   ·simp only [Act.put, List.setIfInBounds_toArray, List.set_cons_zero, List.set_cons_succ, i64_w, i32_w]
    rfl
   refine pure_ (i := 4) (N := some 23) (v := ?_) (a' := ?_) #[true, true, true, true, true, false, false, false, false, false, false, false] rfl rfl (any_of rfl (by kernel_rfl)) (fun _ _ _ h => h) (Or.inl ⟨by rfl, ?_⟩) ?_ ?_
   rotate_left
   ·intro w'
    go_simp
    with_reducible rfl
   rotate_left
   ·simp only [Act.put, List.setIfInBounds_toArray, List.set_cons_zero, List.set_cons_succ, i64_w, i32_w]
    rfl
   refine pure_ (i := 5) (N := some 24) (v := ?_) (a' := ?_) #[true, true, true, true, true, true, false, false, false, false, false, false] rfl rfl (any_of rfl (by kernel_rfl)) (fun _ _ _ h => h) (Or.inl ⟨by rfl, ?_⟩) ?_ ?_
   rotate_left
   ·intro w'
    go_simp
    with_reducible rfl
   rotate_left
   ·simp only [Act.put, List.setIfInBounds_toArray, List.set_cons_zero, List.set_cons_succ, i64_w, i32_w]
    rfl
   refine pure_ (i := 6) (N := some 25) (v := ?_) (a' := ?_) #[true, true, true, true, true, true, true, false, false, false, false, false] rfl rfl (any_of rfl (by kernel_rfl)) (fun _ _ _ h => h) (Or.inl ⟨by rfl, ?_⟩) ?_ ?_
   rotate_left
   ·intro w'
    go_simp
    with_reducible rfl
   rotate_left
   ·simp only [Act.put, List.setIfInBounds_toArray, List.set_cons_zero, List.set_cons_succ, i64_w, i32_w]
    rfl
   refine take_ (i := 7) (N := some 26) (v := ?_) (a' := ?_) #[true, true, true, true, true, true, true, true, false, false, false, false] rfl rfl (take_of rfl (by kernel_rfl)) (fun _ _ _ h => h) (Or.inl ⟨by rfl, ?_⟩) hHeld ?_ ?_
   rotate_left
   ·rintro w' ⟨s0, s1, s2, s3, s4, s5, s6, s7, s8, s9⟩
    go_simp
    with_reducible rfl
   rotate_left
   ·simp only [Act.put, List.setIfInBounds_toArray, List.set_cons_zero, List.set_cons_succ, i64_w, i32_w]
    rfl
   refine two_ (i := 8) (j := 9) (Ni := some 6) (Nj := some 7) #[true, true, true, true, true, true, true, true, true, false, false, false] #[true, true, true, true, true, true, true, true, false, true, false, false] rfl rfl rfl rfl (two_of rfl (by kernel_rfl)) (by decide) (by decide) (fun K hK => ?_) (fun K hK => ?_)
   ·refine value_ (w1 := w3.alloc (.cells #[.int .u8 0, .int .i64 0, .slice none 0 0, .slice none 0 0, .slice none 0 0] 30)) (v := .pointer (some ⟨w3.heap.size, 0, none⟩)) (by rfl) rfl ?_ ?_
    ·go_simp
     try rfl
    refine hK.out _ _ (EW.out _ (below_then HWB.out HWB.out.size (below_alloc (Below.refl w3.heap.size w3) _))) (fun hHeld => ?_)
    clear hK K
    refine norm_ (a' := ?_) ?_ ?_
    rotate_left
    ·show Act.put _ (some 6) _ = _
     simp only [Act.put, List.setIfInBounds_toArray, List.set_cons_zero, List.set_cons_succ, i64_w, i32_w]
     rfl
    refine one_ (i := 9) (N := some 7) #[true, true, true, true, true, true, true, true, true, true, false, false] rfl rfl (one_of rfl (by kernel_rfl)) (by decide) (fun K hK => ?_)
    refine value_ (w1 := (w3.alloc (.cells #[.int .u8 0, .int .i64 0, .slice none 0 0, .slice none 0 0, .slice none 0 0] 30)).alloc (.cells #[.int .u8 0, .int .i64 0, .slice none 0 0, .slice none 0 0, .slice none 0 0] 30)) (v := .pointer (some ⟨w3.heap.size + 1, 0, none⟩)) (by rfl) rfl ?_ ?_
    ·go_simp
     try rfl
    refine hK.out _ _ (EW.out _ (below_then HWB.out HWB.out.size (below_alloc (below_alloc (Below.refl w3.heap.size w3) _) _))) (fun hHeld => ?_)
    clear hK K
    refine norm_ (a' := ?_) ?_ ?_
    rotate_left
    ·show Act.put _ (some 7) _ = _
     simp only [Act.put, List.setIfInBounds_toArray, List.set_cons_zero, List.set_cons_succ, i64_w, i32_w]
     rfl
    refine one_ (i := 10) (N := none) #[true, true, true, true, true, true, true, true, true, true, true, false] rfl rfl (one_of rfl (by kernel_rfl)) (by decide) (fun K hK => ?_)
    refine skip_ (w1 := (w3.alloc (.cells #[.int .u8 x.f0, .int .i64 x.f1, .slice A2 x.f2.length c2, .slice A3 x.f3.length c3, .slice A4 x.f4.length c4] 30)).alloc (.cells #[.int .u8 0, .int .i64 0, .slice none 0 0, .slice none 0 0, .slice none 0 0] 30)) (by rfl) rfl ?_ ?_
    ·go_simp
     try rfl
    refine hK.out _ _ (EW.out _ (below_then HWB.out HWB.out.size (below_alloc (below_alloc (Below.refl w3.heap.size w3) _) _))) (fun hHeld => ?_)
    clear hK K
    refine last_ (i := 11) (N := none) #[true, true, true, true, true, true, true, true, true, true, true, true] rfl rfl (one_of rfl (by kernel_rfl)) (by decide) (fun K hK => ?_)
    refine skip_ (w1 := (w3.alloc (.cells #[.int .u8 x.f0, .int .i64 x.f1, .slice A2 x.f2.length c2, .slice A3 x.f3.length c3, .slice A4 x.f4.length c4] 30)).alloc (.cells #[.int .u8 y.f0, .int .i64 y.f1, .slice B2 y.f2.length d2, .slice B3 y.f3.length d3, .slice B4 y.f4.length d4] 30)) (by rfl) rfl ?_ ?_
    ·go_simp
     try rfl
    refine hK.out _ _ ?_
    clear hK K
    refine done_ (done_of rfl (by kernel_rfl)) ?_
    have hA := blk_alloc (heap_alloc_new w3 (.cells #[.int .u8 x.f0, .int .i64 x.f1, .slice A2 x.f2.length c2, .slice A3 x.f3.length c3, .slice A4 x.f4.length c4] 30)) (.cells #[.int .u8 y.f0, .int .i64 y.f1, .slice B2 y.f2.length d2, .slice B3 y.f3.length d3, .slice B4 y.f4.length d4] 30)
    have hC := heap_alloc_new (w3.alloc (.cells #[.int .u8 x.f0, .int .i64 x.f1, .slice A2 x.f2.length c2, .slice A3 x.f3.length c3, .slice A4 x.f4.length c4] 30)) (.cells #[.int .u8 y.f0, .int .i64 y.f1, .slice B2 y.f2.length d2, .slice B3 y.f3.length d3, .slice B4 y.f4.length d4] 30)
    rw [show (w3.alloc (.cells #[.int .u8 x.f0, .int .i64 x.f1, .slice A2 x.f2.length c2, .slice A3 x.f3.length c3, .slice A4 x.f4.length c4] 30)).heap.size = w3.heap.size + 1 from by simp] at hC
    have hbw : Below w3.heap.size w3 ((w3.alloc (.cells #[.int .u8 x.f0, .int .i64 x.f1, .slice A2 x.f2.length c2, .slice A3 x.f3.length c3, .slice A4 x.f4.length c4] 30)).alloc (.cells #[.int .u8 y.f0, .int .i64 y.f1, .slice B2 y.f2.length d2, .slice B3 y.f3.length d3, .slice B4 y.f4.length d4] 30)) := below_alloc (below_alloc (Below.refl w3.heap.size w3) _) _
    generalize (w3.alloc (.cells #[.int .u8 x.f0, .int .i64 x.f1, .slice A2 x.f2.length c2, .slice A3 x.f3.length c3, .slice A4 x.f4.length c4] 30)).alloc (.cells #[.int .u8 y.f0, .int .i64 y.f1, .slice B2 y.f2.length d2, .slice B3 y.f3.length d3, .slice B4 y.f4.length d4] 30) = w9 at hA hC hbw ⊢
    have hX9 := hA
    have hY9 := hC
    generalize w3.heap.size + 1 = b7 at hY9 ⊢
    generalize w3.heap.size = b6 at hX9 ⊢
    clear hA hC
    have hBW : Below wr.heap.size wr w9 := below_then HWB.out HWB.out.size hbw
    have HX9 := Aside0.mk (HX.out.below hBW)
    have HY9 := Aside0.mk (HY.out.below hBW)
    have HB9 := Aside0.mk (below_step HI.out.1 hBW)
    have HNE : Aside0 (keyO x ≠ keyO y → eqB (l0.map keyO) (l1.map keyO) = false) := ⟨fun hne => by
     rw [HI.out.2]
     refine eqB_false.2 (fun h => ?_)
     have h2 := ((map_drop_eq keyO l0 l1 k hlt hlt1).1 h).1
     rw [HE.out, HF.out] at h2
     exact hne h2⟩
    have HEQ : Aside0 (keyO x = keyO y → eqB (l0.map keyO) (l1.map keyO) = eqB ((l0.drop (k + 1)).map keyO) ((l1.drop (k + 1)).map keyO)) := ⟨fun heq => by
     rw [HI.out.2, Bool.eq_iff_iff, eqB_true, eqB_true, map_drop_eq keyO l0 l1 k hlt hlt1, HE.out, HF.out]
     exact ⟨fun h => h.2, fun h => ⟨heq, h⟩⟩⟩
    have x0 : w9.cell? ⟨b6, 0, none⟩ = some (.int .u8 x.f0) := (blk_cell hX9 0).trans rfl
    have x1 : w9.cell? ⟨b6, 1, none⟩ = some (.int .i64 x.f1) := (blk_cell hX9 1).trans rfl
    have x2 : w9.cell? ⟨b6, 2, none⟩ = some (.slice A2 x.f2.length c2) := (blk_cell hX9 2).trans rfl
    have y0 : w9.cell? ⟨b7, 0, none⟩ = some (.int .u8 y.f0) := (blk_cell hY9 0).trans rfl
    have y1 : w9.cell? ⟨b7, 1, none⟩ = some (.int .i64 y.f1) := (blk_cell hY9 1).trans rfl
    have y2 : w9.cell? ⟨b7, 2, none⟩ = some (.slice B2 y.f2.length d2) := (blk_cell hY9 2).trans rfl
    have HX8 := Aside0.mk hX9
    have HY8 := Aside0.mk hY9
    have hsz := HSZ.out
    clear hBW hbw hX9 hY9 HI EW HWB HX HY HE HF
    by_cases h0 : x.f0 = y.f0
    ·by_cases h1 : x.f1 = y.f1
     ·have p0 : (x.f0 != y.f0) = false := by rw [h0]; simp
      have p1 : (x.f1 != y.f1) = false := by rw [h1]; simp
      have HK : Aside0 (keyO x = keyO y ↔ x.f2 = y.f2 ∧ keyA x.f3 = keyA y.f3 ∧ keyC x.f4 = keyC y.f4) := ⟨by simp only [keyO, Prod.mk.injEq, h0, h1, true_and]⟩
      clear h0 h1
      go_wp2_with fail
      refine (refI_calls A2 c2 x.f2 B2 d2 y.f2 w9 HX9.out.r2 HX9.out.l2 HY9.out.r2 HY9.out.l2).mono ?_
      rintro e w10 ⟨rfl, hb⟩
      replace HX9 := Aside0.mk (HX9.out.below hb)
      replace HY9 := Aside0.mk (HY9.out.below hb)
      replace HB9 := Aside0.mk (below_step HB9.out hb)
      have hx1 := (hb.block b6 (blk_lt HX8.out)).trans HX8.out
      have hy1 := (hb.block b7 (blk_lt HY8.out)).trans HY8.out
      obtain ⟨b2, hb2⟩ : ∃ b, eqB x.f2 y.f2 = b := ⟨_, rfl⟩
      rw [hb2]
      have x3 : w10.cell? ⟨b6, 3, none⟩ = some (.slice A3 x.f3.length c3) := (blk_cell hx1 3).trans rfl
      have y3 : w10.cell? ⟨b7, 3, none⟩ = some (.slice B3 y.f3.length d3) := (blk_cell hy1 3).trans rfl
      replace HX8 := Aside0.mk hx1
      replace HY8 := Aside0.mk hy1
      have HB2 := Aside0.mk hb2
      clear hb hx1 hy1 hb2 x0 x1 x2 y0 y1 y2 p0 p1
      cases b2 with
      | false =>
       have HANS := Aside0.mk (HNE.out (fun h => eqB_false.1 HB2.out (HK.out.1 h).1))
       go_wp2_with fail
       go_ret
       exact ⟨by rw [HANS.out]; rfl, HB9.out⟩
      | true =>
       go_wp2_with fail
       refine (refA_calls A3 c3 x.f3 B3 d3 y.f3 w10 HX9.out.r3 HX9.out.l3 HY9.out.r3 HY9.out.l3).mono ?_
       rintro e w11 ⟨rfl, hb⟩
       replace HX9 := Aside0.mk (HX9.out.below hb)
       replace HY9 := Aside0.mk (HY9.out.below hb)
       replace HB9 := Aside0.mk (below_step HB9.out hb)
       have hx1 := (hb.block b6 (blk_lt HX8.out)).trans HX8.out
       have hy1 := (hb.block b7 (blk_lt HY8.out)).trans HY8.out
       obtain ⟨b3, hb3⟩ : ∃ b, eqB (keyA x.f3) (keyA y.f3) = b := ⟨_, rfl⟩
       rw [hb3]
       have x4 : w11.cell? ⟨b6, 4, none⟩ = some (.slice A4 x.f4.length c4) := (blk_cell hx1 4).trans rfl
       have y4 : w11.cell? ⟨b7, 4, none⟩ = some (.slice B4 y.f4.length d4) := (blk_cell hy1 4).trans rfl
       have HB3 := Aside0.mk hb3
       clear hb hx1 hy1 hb3 x3 y3
       cases b3 with
       | false =>
        have HANS := Aside0.mk (HNE.out (fun h => eqB_false.1 HB3.out (HK.out.1 h).2.1))
        go_wp2_with fail
        go_ret
        exact ⟨by rw [HANS.out]; rfl, HB9.out⟩
       | true =>
        go_wp2_with fail
        refine (refC_calls A4 c4 x.f4 B4 d4 y.f4 w11 HX9.out.r4 HX9.out.l4 HY9.out.r4 HY9.out.l4).mono ?_
        rintro e w12 ⟨rfl, hb⟩
        replace HB9 := Aside0.mk (below_step HB9.out hb)
        obtain ⟨b4, hb4⟩ : ∃ b, eqB (keyC x.f4) (keyC y.f4) = b := ⟨_, rfl⟩
        rw [hb4]
        have HB4 := Aside0.mk hb4
        clear hb hb4 x4 y4
        cases b4 with
        | false =>
         have HANS := Aside0.mk (HNE.out (fun h => eqB_false.1 HB4.out (HK.out.1 h).2.2))
         go_wp2_with fail
         go_ret
         exact ⟨by rw [HANS.out]; rfl, HB9.out⟩
        | true =>
         have HNEW := Aside0.mk (And.intro HB9.out (HEQ.out (HK.out.2 ⟨eqB_true.1 HB2.out, eqB_true.1 HB3.out, eqB_true.1 HB4.out⟩)))
         go_wp2_with fail
         go_roundw
         case rel => exact ⟨k + 1, by omega, by go_num, HNEW⟩
         case measure => simp [intOf]; omega
     ·have p0 : (x.f0 != y.f0) = false := by rw [h0]; simp
      have p1 : (x.f1 != y.f1) = true := bne_iff_ne.2 h1
      have HANS := Aside0.mk (HNE.out (fun h => h1 (congrArg (fun t => t.2.1) h)))
      clear h0 h1
      go_wp2_with fail
      go_ret
      exact ⟨by rw [HANS.out]; rfl, HB9.out⟩
    ·have p0 : (x.f0 != y.f0) = true := bne_iff_ne.2 h0
     have HANS := Aside0.mk (HNE.out (fun h => h0 (congrArg (fun t => t.1) h)))
     clear h0
     go_wp2_with fail
     go_ret
     exact ⟨by rw [HANS.out]; rfl, HB9.out⟩
   ·refine value_ (w1 := w3.alloc (.cells #[.int .u8 0, .int .i64 0, .slice none 0 0, .slice none 0 0, .slice none 0 0] 30)) (v := .pointer (some ⟨w3.heap.size, 0, none⟩)) (by rfl) rfl ?_ ?_
    ·go_simp
     try rfl
    refine hK.out _ _ (EW.out _ (below_then HWB.out HWB.out.size (below_alloc (Below.refl w3.heap.size w3) _))) (fun hHeld => ?_)
    clear hK K
    refine norm_ (a' := ?_) ?_ ?_
    rotate_left
    ·show Act.put _ (some 7) _ = _
     simp only [Act.put, List.setIfInBounds_toArray, List.set_cons_zero, List.set_cons_succ, i64_w, i32_w]
     rfl
    refine one_ (i := 8) (N := some 6) #[true, true, true, true, true, true, true, true, true, true, false, false] rfl rfl (one_of rfl (by kernel_rfl)) (by decide) (fun K hK => ?_)
    refine value_ (w1 := (w3.alloc (.cells #[.int .u8 0, .int .i64 0, .slice none 0 0, .slice none 0 0, .slice none 0 0] 30)).alloc (.cells #[.int .u8 0, .int .i64 0, .slice none 0 0, .slice none 0 0, .slice none 0 0] 30)) (v := .pointer (some ⟨w3.heap.size + 1, 0, none⟩)) (by rfl) rfl ?_ ?_
    ·go_simp
     try rfl
    refine hK.out _ _ (EW.out _ (below_then HWB.out HWB.out.size (below_alloc (below_alloc (Below.refl w3.heap.size w3) _) _))) (fun hHeld => ?_)
    clear hK K
    refine norm_ (a' := ?_) ?_ ?_
    rotate_left
    ·show Act.put _ (some 6) _ = _
     simp only [Act.put, List.setIfInBounds_toArray, List.set_cons_zero, List.set_cons_succ, i64_w, i32_w]
     rfl
    refine one_ (i := 10) (N := none) #[true, true, true, true, true, true, true, true, true, true, true, false] rfl rfl (one_of rfl (by kernel_rfl)) (by decide) (fun K hK => ?_)
    refine skip_ (w1 := (w3.alloc (.cells #[.int .u8 0, .int .i64 0, .slice none 0 0, .slice none 0 0, .slice none 0 0] 30)).alloc (.cells #[.int .u8 x.f0, .int .i64 x.f1, .slice A2 x.f2.length c2, .slice A3 x.f3.length c3, .slice A4 x.f4.length c4] 30)) (by rfl) rfl ?_ ?_
    ·go_simp
     try rfl
    refine hK.out _ _ (EW.out _ (below_then HWB.out HWB.out.size (below_alloc (below_alloc (Below.refl w3.heap.size w3) _) _))) (fun hHeld => ?_)
    clear hK K
    refine last_ (i := 11) (N := none) #[true, true, true, true, true, true, true, true, true, true, true, true] rfl rfl (one_of rfl (by kernel_rfl)) (by decide) (fun K hK => ?_)
    refine skip_ (w1 := (w3.alloc (.cells #[.int .u8 y.f0, .int .i64 y.f1, .slice B2 y.f2.length d2, .slice B3 y.f3.length d3, .slice B4 y.f4.length d4] 30)).alloc (.cells #[.int .u8 x.f0, .int .i64 x.f1, .slice A2 x.f2.length c2, .slice A3 x.f3.length c3, .slice A4 x.f4.length c4] 30)) (by rfl) rfl ?_ ?_
    ·go_simp
     try rfl
    refine hK.out _ _ ?_
    clear hK K
    refine done_ (done_of rfl (by kernel_rfl)) ?_
    have hA := blk_alloc (heap_alloc_new w3 (.cells #[.int .u8 y.f0, .int .i64 y.f1, .slice B2 y.f2.length d2, .slice B3 y.f3.length d3, .slice B4 y.f4.length d4] 30)) (.cells #[.int .u8 x.f0, .int .i64 x.f1, .slice A2 x.f2.length c2, .slice A3 x.f3.length c3, .slice A4 x.f4.length c4] 30)
    have hC := heap_alloc_new (w3.alloc (.cells #[.int .u8 y.f0, .int .i64 y.f1, .slice B2 y.f2.length d2, .slice B3 y.f3.length d3, .slice B4 y.f4.length d4] 30)) (.cells #[.int .u8 x.f0, .int .i64 x.f1, .slice A2 x.f2.length c2, .slice A3 x.f3.length c3, .slice A4 x.f4.length c4] 30)
    rw [show (w3.alloc (.cells #[.int .u8 y.f0, .int .i64 y.f1, .slice B2 y.f2.length d2, .slice B3 y.f3.length d3, .slice B4 y.f4.length d4] 30)).heap.size = w3.heap.size + 1 from by simp] at hC
    have hbw : Below w3.heap.size w3 ((w3.alloc (.cells #[.int .u8 y.f0, .int .i64 y.f1, .slice B2 y.f2.length d2, .slice B3 y.f3.length d3, .slice B4 y.f4.length d4] 30)).alloc (.cells #[.int .u8 x.f0, .int .i64 x.f1, .slice A2 x.f2.length c2, .slice A3 x.f3.length c3, .slice A4 x.f4.length c4] 30)) := below_alloc (below_alloc (Below.refl w3.heap.size w3) _) _
    generalize (w3.alloc (.cells #[.int .u8 y.f0, .int .i64 y.f1, .slice B2 y.f2.length d2, .slice B3 y.f3.length d3, .slice B4 y.f4.length d4] 30)).alloc (.cells #[.int .u8 x.f0, .int .i64 x.f1, .slice A2 x.f2.length c2, .slice A3 x.f3.length c3, .slice A4 x.f4.length c4] 30) = w9 at hA hC hbw ⊢
    have hX9 := hC
    have hY9 := hA
    generalize w3.heap.size + 1 = b6 at hX9 ⊢
    generalize w3.heap.size = b7 at hY9 ⊢
    clear hA hC
    have hBW : Below wr.heap.size wr w9 := below_then HWB.out HWB.out.size hbw
    have HX9 := Aside0.mk (HX.out.below hBW)
    have HY9 := Aside0.mk (HY.out.below hBW)
    have HB9 := Aside0.mk (below_step HI.out.1 hBW)
    have HNE : Aside0 (keyO x ≠ keyO y → eqB (l0.map keyO) (l1.map keyO) = false) := ⟨fun hne => by
     rw [HI.out.2]
     refine eqB_false.2 (fun h => ?_)
     have h2 := ((map_drop_eq keyO l0 l1 k hlt hlt1).1 h).1
     rw [HE.out, HF.out] at h2
     exact hne h2⟩
    have HEQ : Aside0 (keyO x = keyO y → eqB (l0.map keyO) (l1.map keyO) = eqB ((l0.drop (k + 1)).map keyO) ((l1.drop (k + 1)).map keyO)) := ⟨fun heq => by
     rw [HI.out.2, Bool.eq_iff_iff, eqB_true, eqB_true, map_drop_eq keyO l0 l1 k hlt hlt1, HE.out, HF.out]
     exact ⟨fun h => h.2, fun h => ⟨heq, h⟩⟩⟩
    have x0 : w9.cell? ⟨b6, 0, none⟩ = some (.int .u8 x.f0) := (blk_cell hX9 0).trans rfl
    have x1 : w9.cell? ⟨b6, 1, none⟩ = some (.int .i64 x.f1) := (blk_cell hX9 1).trans rfl
    have x2 : w9.cell? ⟨b6, 2, none⟩ = some (.slice A2 x.f2.length c2) := (blk_cell hX9 2).trans rfl
    have y0 : w9.cell? ⟨b7, 0, none⟩ = some (.int .u8 y.f0) := (blk_cell hY9 0).trans rfl
    have y1 : w9.cell? ⟨b7, 1, none⟩ = some (.int .i64 y.f1) := (blk_cell hY9 1).trans rfl
    have y2 : w9.cell? ⟨b7, 2, none⟩ = some (.slice B2 y.f2.length d2) := (blk_cell hY9 2).trans rfl
    have HX8 := Aside0.mk hX9
    have HY8 := Aside0.mk hY9
    have hsz := HSZ.out
    clear hBW hbw hX9 hY9 HI EW HWB HX HY HE HF
    by_cases h0 : x.f0 = y.f0
    ·by_cases h1 : x.f1 = y.f1
     ·have p0 : (x.f0 != y.f0) = false := by rw [h0]; simp
      have p1 : (x.f1 != y.f1) = false := by rw [h1]; simp
      have HK : Aside0 (keyO x = keyO y ↔ x.f2 = y.f2 ∧ keyA x.f3 = keyA y.f3 ∧ keyC x.f4 = keyC y.f4) := ⟨by simp only [keyO, Prod.mk.injEq, h0, h1, true_and]⟩
      clear h0 h1
      go_wp2_with fail
      refine (refI_calls A2 c2 x.f2 B2 d2 y.f2 w9 HX9.out.r2 HX9.out.l2 HY9.out.r2 HY9.out.l2).mono ?_
      rintro e w10 ⟨rfl, hb⟩
      replace HX9 := Aside0.mk (HX9.out.below hb)
      replace HY9 := Aside0.mk (HY9.out.below hb)
      replace HB9 := Aside0.mk (below_step HB9.out hb)
      have hx1 := (hb.block b6 (blk_lt HX8.out)).trans HX8.out
      have hy1 := (hb.block b7 (blk_lt HY8.out)).trans HY8.out
      obtain ⟨b2, hb2⟩ : ∃ b, eqB x.f2 y.f2 = b := ⟨_, rfl⟩
      rw [hb2]
      have x3 : w10.cell? ⟨b6, 3, none⟩ = some (.slice A3 x.f3.length c3) := (blk_cell hx1 3).trans rfl
      have y3 : w10.cell? ⟨b7, 3, none⟩ = some (.slice B3 y.f3.length d3) := (blk_cell hy1 3).trans rfl
      replace HX8 := Aside0.mk hx1
      replace HY8 := Aside0.mk hy1
      have HB2 := Aside0.mk hb2
      clear hb hx1 hy1 hb2 x0 x1 x2 y0 y1 y2 p0 p1
      cases b2 with
      | false =>
       have HANS := Aside0.mk (HNE.out (fun h => eqB_false.1 HB2.out (HK.out.1 h).1))
       go_wp2_with fail
       go_ret
       exact ⟨by rw [HANS.out]; rfl, HB9.out⟩
      | true =>
       go_wp2_with fail
       refine (refA_calls A3 c3 x.f3 B3 d3 y.f3 w10 HX9.out.r3 HX9.out.l3 HY9.out.r3 HY9.out.l3).mono ?_
       rintro e w11 ⟨rfl, hb⟩
       replace HX9 := Aside0.mk (HX9.out.below hb)
       replace HY9 := Aside0.mk (HY9.out.below hb)
       replace HB9 := Aside0.mk (below_step HB9.out hb)
       have hx1 := (hb.block b6 (blk_lt HX8.out)).trans HX8.out
       have hy1 := (hb.block b7 (blk_lt HY8.out)).trans HY8.out
       obtain ⟨b3, hb3⟩ : ∃ b, eqB (keyA x.f3) (keyA y.f3) = b := ⟨_, rfl⟩
       rw [hb3]
       have x4 : w11.cell? ⟨b6, 4, none⟩ = some (.slice A4 x.f4.length c4) := (blk_cell hx1 4).trans rfl
       have y4 : w11.cell? ⟨b7, 4, none⟩ = some (.slice B4 y.f4.length d4) := (blk_cell hy1 4).trans rfl
       have HB3 := Aside0.mk hb3
       clear hb hx1 hy1 hb3 x3 y3
       cases b3 with
       | false =>
        have HANS := Aside0.mk (HNE.out (fun h => eqB_false.1 HB3.out (HK.out.1 h).2.1))
        go_wp2_with fail
        go_ret
        exact ⟨by rw [HANS.out]; rfl, HB9.out⟩
       | true =>
        go_wp2_with fail
        refine (refC_calls A4 c4 x.f4 B4 d4 y.f4 w11 HX9.out.r4 HX9.out.l4 HY9.out.r4 HY9.out.l4).mono ?_
        rintro e w12 ⟨rfl, hb⟩
        replace HB9 := Aside0.mk (below_step HB9.out hb)
        obtain ⟨b4, hb4⟩ : ∃ b, eqB (keyC x.f4) (keyC y.f4) = b := ⟨_, rfl⟩
        rw [hb4]
        have HB4 := Aside0.mk hb4
        clear hb hb4 x4 y4
        cases b4 with
        | false =>
         have HANS := Aside0.mk (HNE.out (fun h => eqB_false.1 HB4.out (HK.out.1 h).2.2))
         go_wp2_with fail
         go_ret
         exact ⟨by rw [HANS.out]; rfl, HB9.out⟩
        | true =>
         have HNEW := Aside0.mk (And.intro HB9.out (HEQ.out (HK.out.2 ⟨eqB_true.1 HB2.out, eqB_true.1 HB3.out, eqB_true.1 HB4.out⟩)))
         go_wp2_with fail
         go_roundw
         case rel => exact ⟨k + 1, by omega, by go_num, HNEW⟩
         case measure => simp [intOf]; omega
     ·have p0 : (x.f0 != y.f0) = false := by rw [h0]; simp
      have p1 : (x.f1 != y.f1) = true := bne_iff_ne.2 h1
      have HANS := Aside0.mk (HNE.out (fun h => h1 (congrArg (fun t => t.2.1) h)))
      clear h0 h1
      go_wp2_with fail
      go_ret
      exact ⟨by rw [HANS.out]; rfl, HB9.out⟩
    ·have p0 : (x.f0 != y.f0) = true := bne_iff_ne.2 h0
     have HANS := Aside0.mk (HNE.out (fun h => h0 (congrArg (fun t => t.1) h)))
     clear h0
     go_wp2_with fail
     go_ret
     exact ⟨by rw [HANS.out]; rfl, HB9.out⟩
  ·obtain rfl : k = l0.length := by omega
   go_wp2_with fail
   go_ret
   refine ⟨?_, HI.out.1⟩
   have h := HI.out.2
   rw [List.drop_length, HL.out, List.drop_length] at h
   rw [h]
   rfl
theorem refSame_calls (A0 : Option Addr) (c0 : Nat) (l0 : List S30) (A1 : Option Addr) (c1 : Nat) (l1 : List S30) (w : World) (hr0 : Kd.C k30 w A0 l0.length l0) (hc0 : l0.length ≤ c0) (hr1 : Kd.C k30 w A1 l1.length l1) (hc1 : l1.length ≤ c1) (hs : l0.length ≤ 3000000) :
  Calls Try.prog 16 #[.slice A0 l0.length c0, .slice A1 l1.length c1] w fun e w' => e = .returned (.bool (eqB (l0.map keyO) (l1.map keyO))) ∧ Below w.heap.size w w' := by
 by_cases hl : l0.length = l1.length
 ·exact refSame_eq A0 c0 l0 A1 c1 l1 w hr0 hc0 hr1 hc1 hl hs
 ·exact refSame_ne A0 c0 l0 A1 c1 l1 w hl
end Go.Proofs.Ytmjeoknamoegpaa.P
namespace Go.Proofs.Ytmjeoknamoegpaa.P
open Go.RowKit Go.Proofs.YtmjeoknamoegpaaW.PrintWords Go.Proofs.YtmjeoknamoegpaaW.PrintLast Go.Proofs.YtmjeoknamoegpaaW.PrintMore
set_option linter.unusedVariables false
set_option linter.unusedSimpArgs false
structure Four where
 pg : Nat
 pa : Nat
 py : Nat
 pq : Nat
def Four.off (P : Four) (k : Nat) : Prop := k ≠ P.pg ∧ k ≠ P.pa ∧ k ≠ P.py ∧ k ≠ P.pq
structure MSY (W : World) (base : Nat) (P : Four) (ah : Bool) (g : Int) (vy : Value) (okY : Nat → Prop) (Y : List S30) (vq : Value) : Prop where
 bg : W.heap[P.pg]? = some (.cells #[.int .i64 g] 3 (0, 0))
 ba : W.heap[P.pa]? = some (.cells #[.bool ah] 4 (0, 0))
 by_ : W.heap[P.py]? = some (.cells #[vy] 23 (0, 0))
 bq : W.heap[P.pq]? = some (.cells #[vq] 23 (0, 0))
 lo : base ≤ P.pg ∧ base ≤ P.pa ∧ base ≤ P.py ∧ base ≤ P.pq
 ds : P.pg ≠ P.pa ∧ P.pg ≠ P.py ∧ P.pg ≠ P.pq ∧ P.pa ≠ P.py ∧ P.pa ≠ P.pq ∧ P.py ≠ P.pq
 nY : Kd.N k30 30 W base okY vy Y
 oY : ∀ k, okY k → k < W.heap.size ∧ (k < base ∨ P.off k)
structure QP (W : World) (base : Nat) (P : Four) (okY : Nat → Prop) (vq : Value) (okQ : Nat → Prop) (Q : List S30) : Prop where
 nQ : Kd.N k30 30 W base okQ vq Q
 oQ : ∀ k, okQ k → k < W.heap.size ∧ (k < base ∨ (P.off k ∧ ¬ okY k))
variable {W W1 w1 : World} {base : Nat} {P : Four} {ah : Bool} {g : Int} {vy vq v1 : Value} {okY okQ ok' : Nat → Prop} {Y Q Y' Q' : List S30}
theorem MSY.below (h : MSY W base P ah g vy okY Y vq) (hb : Below W.heap.size W W1) : MSY W1 base P ah g vy okY Y vq :=
 ⟨blk_below h.bg hb, blk_below h.ba hb, blk_below h.by_ hb, blk_below h.bq hb, h.lo, h.ds, Kd.N_below h.nY hb, fun k hk => ⟨Nat.lt_of_lt_of_le (h.oY k hk).1 hb.size, (h.oY k hk).2⟩⟩
theorem QP.below (h : QP W base P okY vq okQ Q) (hb : Below W.heap.size W W1) : QP W1 base P okY vq okQ Q :=
 ⟨Kd.N_below h.nQ hb, fun k hk => ⟨Nat.lt_of_lt_of_le (h.oQ k hk).1 hb.size, (h.oQ k hk).2⟩⟩
theorem QP.nil (W : World) (base : Nat) (P : Four) (okY : Nat → Prop) : QP W base P okY (.slice none 0 0) (fun _ => False) [] := ⟨Kd.N_nil _ _ _ _ _, fun k hk => hk.elim⟩
/-! ### the walk of the function value -/
def delO (g : Int) : S30 := ⟨3, g, [], [], []⟩
end Go.Proofs.Ytmjeoknamoegpaa.P
