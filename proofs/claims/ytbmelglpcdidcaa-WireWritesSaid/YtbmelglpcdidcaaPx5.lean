-- laid by print.py over an altered print (wip/tools/pr.py); the walks of the altered functions are by hand
import Derived.Test.YtbmelglpcdidcaaPx0
import Derived.Test.YtbmelglpcdidcaaPx1
import Derived.Test.YtbmelglpcdidcaaPx4
namespace Go.Proofs.Ytbmelglpcdidcaa.P
open Go.RowKit Go.Proofs.YtbmelglpcdidcaaW.PrintWords Go.Proofs.YtbmelglpcdidcaaW.PrintLast Go.Proofs.YtbmelglpcdidcaaW.PrintMore
attribute [local go_sem] max2_int min2_int max_two min_two max_three min_three max_four min_four   -- for this text's walks alone
set_option linter.unusedVariables false
set_option linter.unusedSimpArgs false

/-! ### rubricref02_Bytes: function 21 -/
def rubricref02_Bytes.f (k : Nat) (l0 : List Int) (a1 : Int) (a2 : Int) : Option (List Int × Int × Int) := (rubricref02_Uint.f k l0 a1).bind fun bt235 => (if bt235.2.2 = 0 then (if a2 < 0 then (some (([] : List Int), 0, 3)) else (if bt235.1 > (IntKind.u64.wrap (a2)) then (some (([] : List Int), 0, 3)) else (if bt235.1 > (IntKind.u64.wrap (wrap64 ((l0.length : Int) - bt235.2.1))) then (some (([] : List Int), 0, 3)) else ((some (([] : List Int) : List Int)).bind fun y238 => (if 0 ≤ bt235.2.1 then (if bt235.2.1 ≤ (wrap64 (bt235.2.1 + (wrap64 (bt235.1)))) then (if (wrap64 (bt235.2.1 + (wrap64 (bt235.1)))) ≤ (l0.length : Int) then (if y238.length + ((l0.take ((wrap64 (bt235.2.1 + (wrap64 (bt235.1)))) : Int).toNat).drop (bt235.2.1 : Int).toNat).length < 140737488355328 then (some ((y238 ++ ((l0.take ((wrap64 (bt235.2.1 + (wrap64 (bt235.1)))) : Int).toNat).drop (bt235.2.1 : Int).toNat)), wrap64 (bt235.2.1 + (wrap64 (bt235.1))), 0)) else (none)) else (none)) else (none)) else (none)))))) else (some (([] : List Int), 0, bt235.2.2)))
theorem rubricref02_Bytes.mono : ∀ a0 a1 a2 k, LeO (rubricref02_Bytes.f k a0 a1 a2) (rubricref02_Bytes.f (k + 1) a0 a1 a2) := by
  intro a0 a1 a2 k
  unfold rubricref02_Bytes.f
  repeat' first
      | (with_reducible exact rubricref02_Uint.mono _ _ _)
      | (with_reducible exact LeO.refl _)
      | (with_reducible exact LeO.none _)
      | (with_reducible refine LeO.ite ?_ ?_)
      | (with_reducible refine LeO.bind ?_ (fun _ => ?_))
      | exact rubricref02_Uint.mono _ _ _
      | exact LeO.none _
      | refine LeO.ite ?_ ?_
      | refine LeO.bind ?_ (fun _ => ?_)
set_option maxHeartbeats 8000000 in
set_option maxRecDepth 100000 in
theorem rubricref02_Bytes.calls (k : Nat) (A0 : Option Addr) (c0 : Nat) (l0 : List Int) (a1 : Int) (a2 : Int) (r1 : List Int) (r2 : Int) (r3 : Int) (w : World) (hr0 : Kd.C (Kd.int .u8) w A0 l0.length l0) (hc0 : l0.length ≤ c0) (h : rubricref02_Bytes.f k l0 a1 a2 = some (r1, r2, r3)) :
    Calls Try.prog 21 #[.slice A0 l0.length c0, .int .i64 a1, .int .i64 a2] w fun e w' => ∃ v0_ : Value, e = .returned (.tuple #[v0_, .int .i64 r2, .int .i64 r3]) ∧ Kd.R (Kd.int .u8) 5 w' w.heap.size (fun _ => True) v0_ r1 ∧ Below w.heap.size w w' := by
  have HR0 := Aside0.mk hr0
  have HC0 := Aside0.mk hc0
  clear hr0 hc0
  have HB := Aside0.mk (Below.refl w.heap.size w)
  have H : ((rubricref02_Uint.f k l0 a1).bind fun bt235 => (if bt235.2.2 = 0 then (if a2 < 0 then (some (([] : List Int), 0, 3)) else (if bt235.1 > (IntKind.u64.wrap (a2)) then (some (([] : List Int), 0, 3)) else (if bt235.1 > (IntKind.u64.wrap (wrap64 ((l0.length : Int) - bt235.2.1))) then (some (([] : List Int), 0, 3)) else ((some (([] : List Int) : List Int)).bind fun y238 => (if 0 ≤ bt235.2.1 then (if bt235.2.1 ≤ (wrap64 (bt235.2.1 + (wrap64 (bt235.1)))) then (if (wrap64 (bt235.2.1 + (wrap64 (bt235.1)))) ≤ (l0.length : Int) then (if y238.length + ((l0.take ((wrap64 (bt235.2.1 + (wrap64 (bt235.1)))) : Int).toNat).drop (bt235.2.1 : Int).toNat).length < 140737488355328 then (some ((y238 ++ ((l0.take ((wrap64 (bt235.2.1 + (wrap64 (bt235.1)))) : Int).toNat).drop (bt235.2.1 : Int).toNat)), wrap64 (bt235.2.1 + (wrap64 (bt235.1))), 0)) else (none)) else (none)) else (none)) else (none)))))) else (some (([] : List Int), 0, bt235.2.2)))) = some (r1, r2, r3) := h
  clear h
  replace H := Option.bind_eq_some_iff.mp H
  obtain ⟨⟨t235, t236, t237⟩, A40, H⟩ := H
  replace H : (if t237 = 0 then (if a2 < 0 then (some (([] : List Int), 0, 3)) else (if t235 > (IntKind.u64.wrap (a2)) then (some (([] : List Int), 0, 3)) else (if t235 > (IntKind.u64.wrap (wrap64 ((l0.length : Int) - t236))) then (some (([] : List Int), 0, 3)) else ((some (([] : List Int) : List Int)).bind fun y238 => (if 0 ≤ t236 then (if t236 ≤ (wrap64 (t236 + (wrap64 (t235)))) then (if (wrap64 (t236 + (wrap64 (t235)))) ≤ (l0.length : Int) then (if y238.length + ((l0.take ((wrap64 (t236 + (wrap64 (t235)))) : Int).toNat).drop (t236 : Int).toNat).length < 140737488355328 then (some ((y238 ++ ((l0.take ((wrap64 (t236 + (wrap64 (t235)))) : Int).toNat).drop (t236 : Int).toNat)), wrap64 (t236 + (wrap64 (t235))), 0)) else (none)) else (none)) else (none)) else (none)))))) else (some (([] : List Int), 0, t237))) = some (r1, r2, r3) := H
  have A4 := Aside0.mk A40
  clear A40
  by_cases c5 : t237 = 0
  · rw [if_pos c5] at H
    have c5b0 : (t237 == 0) = true := beq_iff_eq.mpr c5
    have c5b1 : (t237 != 0) = false := bne_eq_false_iff_eq.mpr c5
    clear c5
    by_cases c6 : a2 < 0
    · rw [if_pos c6] at H
      have c6b0 : decide (a2 < 0) = true := decide_eq_true c6
      clear c6
      simp only [Option.some.injEq, Prod.mk.injEq] at H
      obtain ⟨rfl, rfl, rfl⟩ := H
      go_enter Try.func21, Try.ntmps21
      go_wp2_with (first | ((with_reducible refine gate_callee (f := 18) rfl ?_); refine goesL_ (some 15) rfl rfl Try.func18 (by kernel_rfl) rfl #[.slice A0 l0.length c0, .int .i64 a1] rfl (by (try simp only [List.map_toArray, List.map_cons, List.map_nil]); first | done | rfl | (simp only [List.length_drop, List.length_take]; rfl)) ?_; (with_reducible refine (rubricref02_Uint.calls k _ _ l0 a1 t235 t236 t237 _ ?side1 ?side2 A4.out).mono ?_); (case side1 => repeat (first | exact HR0.out | (with_reducible refine Kd.C_alloc ?_ _) | (with_reducible refine Kd.C_drewN ?_ _) | (with_reducible refine Kd.C_drew ?_))); (case side2 => exact HC0.out); rintro e w7 ⟨rfl, hb⟩; refine ⟨_, rfl, ?_⟩; have n0_ := Aside0.mk (below_step (by repeat (first | (with_reducible first | exact HB.out | apply below_alloc | apply pw_below_drewN | apply below_drew1) | exact HB.out | exact Below.refl _ _)) hb); clear HB; have HB := n0_; clear n0_; (try clear hb); (try clear hb2); (try clear hk); (try clear hi)))
      go_ret3
      exact ⟨_, by first | rfl | (simp [errW_none, errW_some] <;> rfl) | (simp [*, errW_none, errW_some] <;> rfl), by first | exact Kd.R_nil _ _ _ _ _ | exact Kd.N_nil _ _ _ _ _ | exact Kd.V_nil _ _ _ _ _ | exact Kd.Q_nil _ _ _ _ _ | exact Kd.S_nil _ _ _ _ _, by repeat (first | (with_reducible first | exact HB.out | apply below_alloc | apply pw_below_drewN | apply below_drew1) | exact HB.out | exact Below.refl _ _)⟩
    · rw [if_neg c6] at H
      have c6b0 : decide (a2 < 0) = false := decide_eq_false c6
      clear c6
      by_cases c8 : t235 > (IntKind.u64.wrap (a2))
      · rw [if_pos c8] at H
        have c8b0 : decide ((IntKind.u64.wrap (a2)) < t235) = true := decide_eq_true c8
        clear c8
        simp only [Option.some.injEq, Prod.mk.injEq] at H
        obtain ⟨rfl, rfl, rfl⟩ := H
        go_enter Try.func21, Try.ntmps21
        go_wp2_with (first | ((with_reducible refine gate_callee (f := 18) rfl ?_); refine goesL_ (some 15) rfl rfl Try.func18 (by kernel_rfl) rfl #[.slice A0 l0.length c0, .int .i64 a1] rfl (by (try simp only [List.map_toArray, List.map_cons, List.map_nil]); first | done | rfl | (simp only [List.length_drop, List.length_take]; rfl)) ?_; (with_reducible refine (rubricref02_Uint.calls k _ _ l0 a1 t235 t236 t237 _ ?side1 ?side2 A4.out).mono ?_); (case side1 => repeat (first | exact HR0.out | (with_reducible refine Kd.C_alloc ?_ _) | (with_reducible refine Kd.C_drewN ?_ _) | (with_reducible refine Kd.C_drew ?_))); (case side2 => exact HC0.out); rintro e w9 ⟨rfl, hb⟩; refine ⟨_, rfl, ?_⟩; have n0_ := Aside0.mk (below_step (by repeat (first | (with_reducible first | exact HB.out | apply below_alloc | apply pw_below_drewN | apply below_drew1) | exact HB.out | exact Below.refl _ _)) hb); clear HB; have HB := n0_; clear n0_; (try clear hb); (try clear hb2); (try clear hk); (try clear hi)))
        go_ret3
        exact ⟨_, by first | rfl | (simp [errW_none, errW_some] <;> rfl) | (simp [*, errW_none, errW_some] <;> rfl), by first | exact Kd.R_nil _ _ _ _ _ | exact Kd.N_nil _ _ _ _ _ | exact Kd.V_nil _ _ _ _ _ | exact Kd.Q_nil _ _ _ _ _ | exact Kd.S_nil _ _ _ _ _, by repeat (first | (with_reducible first | exact HB.out | apply below_alloc | apply pw_below_drewN | apply below_drew1) | exact HB.out | exact Below.refl _ _)⟩
      · rw [if_neg c8] at H
        have c8b0 : decide ((IntKind.u64.wrap (a2)) < t235) = false := decide_eq_false c8
        clear c8
        by_cases c10 : t235 > (IntKind.u64.wrap (wrap64 ((l0.length : Int) - t236)))
        · rw [if_pos c10] at H
          have c10b0 : decide ((IntKind.u64.wrap (wrap64 ((l0.length : Int) - t236))) < t235) = true := decide_eq_true c10
          clear c10
          simp only [Option.some.injEq, Prod.mk.injEq] at H
          obtain ⟨rfl, rfl, rfl⟩ := H
          go_enter Try.func21, Try.ntmps21
          go_wp2_with (first | ((with_reducible refine gate_callee (f := 18) rfl ?_); refine goesL_ (some 15) rfl rfl Try.func18 (by kernel_rfl) rfl #[.slice A0 l0.length c0, .int .i64 a1] rfl (by (try simp only [List.map_toArray, List.map_cons, List.map_nil]); first | done | rfl | (simp only [List.length_drop, List.length_take]; rfl)) ?_; (with_reducible refine (rubricref02_Uint.calls k _ _ l0 a1 t235 t236 t237 _ ?side1 ?side2 A4.out).mono ?_); (case side1 => repeat (first | exact HR0.out | (with_reducible refine Kd.C_alloc ?_ _) | (with_reducible refine Kd.C_drewN ?_ _) | (with_reducible refine Kd.C_drew ?_))); (case side2 => exact HC0.out); rintro e w11 ⟨rfl, hb⟩; refine ⟨_, rfl, ?_⟩; have n0_ := Aside0.mk (below_step (by repeat (first | (with_reducible first | exact HB.out | apply below_alloc | apply pw_below_drewN | apply below_drew1) | exact HB.out | exact Below.refl _ _)) hb); clear HB; have HB := n0_; clear n0_; (try clear hb); (try clear hb2); (try clear hk); (try clear hi)))
          go_ret3
          exact ⟨_, by first | rfl | (simp [errW_none, errW_some] <;> rfl) | (simp [*, errW_none, errW_some] <;> rfl), by first | exact Kd.R_nil _ _ _ _ _ | exact Kd.N_nil _ _ _ _ _ | exact Kd.V_nil _ _ _ _ _ | exact Kd.Q_nil _ _ _ _ _ | exact Kd.S_nil _ _ _ _ _, by repeat (first | (with_reducible first | exact HB.out | apply below_alloc | apply pw_below_drewN | apply below_drew1) | exact HB.out | exact Below.refl _ _)⟩
        · rw [if_neg c10] at H
          have c10b0 : decide ((IntKind.u64.wrap (wrap64 ((l0.length : Int) - t236))) < t235) = false := decide_eq_false c10
          clear c10
          obtain ⟨y238, hy238⟩ : ∃ y_ : List Int, y_ = (([] : List Int)) := ⟨_, rfl⟩
          replace H : (if 0 ≤ t236 then (if t236 ≤ (wrap64 (t236 + (wrap64 (t235)))) then (if (wrap64 (t236 + (wrap64 (t235)))) ≤ (l0.length : Int) then (if y238.length + ((l0.take ((wrap64 (t236 + (wrap64 (t235)))) : Int).toNat).drop (t236 : Int).toNat).length < 140737488355328 then (some ((y238 ++ ((l0.take ((wrap64 (t236 + (wrap64 (t235)))) : Int).toNat).drop (t236 : Int).toNat)), wrap64 (t236 + (wrap64 (t235))), 0)) else (none)) else (none)) else (none)) else (none)) = some (r1, r2, r3) := by first | (rw [hy238]; with_reducible exact H) | (have H2_ := (Option.bind_some _ _).symm.trans H; rw [hy238]; with_reducible exact H2_) | (have H2_ := (Option.bind_some _ _).symm.trans H; with_reducible exact H2_) | with_reducible exact H | (rw [hy238]; exact H) | exact H
          have Ny238 := Aside0.mk hy238
          clear hy238
          by_cases c12 : 0 ≤ t236
          · rw [if_pos c12] at H
            have c12b0 := eq_true c12
            have c12b1 : decide (0 ≤ t236) = true := decide_eq_true c12
            clear c12
            by_cases c13 : t236 ≤ (wrap64 (t236 + (wrap64 (t235))))
            · rw [if_pos c13] at H
              have c13b0 := eq_true c13
              have c13b1 : decide (t236 ≤ (wrap64 (t236 + (wrap64 (t235))))) = true := decide_eq_true c13
              by_cases c14 : (wrap64 (t236 + (wrap64 (t235)))) ≤ (l0.length : Int)
              · rw [if_pos c14] at H
                have c14b0 := eq_true c14
                have c14b1 : decide ((wrap64 (t236 + (wrap64 (t235)))) ≤ (l0.length : Int)) = true := decide_eq_true c14
                by_cases c15 : y238.length + ((l0.take ((wrap64 (t236 + (wrap64 (t235)))) : Int).toNat).drop (t236 : Int).toNat).length < 140737488355328
                · rw [if_pos c15] at H
                  have LMc15 := Aside0.mk c15
                  clear c15
                  obtain ⟨y242, hy242⟩ : ∃ y_ : List Int, y_ = (y238 ++ ((l0.take ((wrap64 (t236 + (wrap64 (t235)))) : Int).toNat).drop (t236 : Int).toNat)) := ⟨_, rfl⟩
                  replace H : (some (y242, wrap64 (t236 + (wrap64 (t235))), 0)) = some (r1, r2, r3) := by first | (rw [hy242]; with_reducible exact H) | (have H2_ := (Option.bind_some _ _).symm.trans H; rw [hy242]; with_reducible exact H2_) | (have H2_ := (Option.bind_some _ _).symm.trans H; with_reducible exact H2_) | with_reducible exact H | (rw [hy242]; exact H) | exact H
                  have Ny242 := Aside0.mk hy242
                  clear hy242
                  simp only [Option.some.injEq, Prod.mk.injEq] at H
                  obtain ⟨rfl, rfl, rfl⟩ := H
                  go_enter Try.func21, Try.ntmps21
                  go_wp2_with (first | ((with_reducible refine gate_callee (f := 18) rfl ?_); refine goesL_ (some 15) rfl rfl Try.func18 (by kernel_rfl) rfl #[.slice A0 l0.length c0, .int .i64 a1] rfl (by (try simp only [List.map_toArray, List.map_cons, List.map_nil]); first | done | rfl | (simp only [List.length_drop, List.length_take]; rfl)) ?_; (with_reducible refine (rubricref02_Uint.calls k _ _ l0 a1 t235 t236 t237 _ ?side1 ?side2 A4.out).mono ?_); (case side1 => repeat (first | exact HR0.out | (with_reducible refine Kd.C_alloc ?_ _) | (with_reducible refine Kd.C_drewN ?_ _) | (with_reducible refine Kd.C_drew ?_))); (case side2 => exact HC0.out); rintro e w16 ⟨rfl, hb⟩; refine ⟨_, rfl, ?_⟩; have n0_ := Aside0.mk (below_step (by repeat (first | (with_reducible first | exact HB.out | apply below_alloc | apply pw_below_drewN | apply below_drew1) | exact HB.out | exact Below.refl _ _)) hb); clear HB; have HB := n0_; clear n0_; (try clear hb); (try clear hb2); (try clear hk); (try clear hi)) | ((with_reducible refine gate_dst (N := 39) rfl ?_); (try (refine gate_guard (by rfl) ?_; dsimp only)); refine Kd.R_lit (Kd.int .u8) _ 5 ?hg (N := 39) ?hd (xs := ([] : List Int)) (inner := []) (ok := fun _ => True) (okp := fun _ => True) ?hr ?hp (fun _ hk => hk) trivial (Below.refl _ _) (Nat.le_refl _) (by simp) ?_; (case hd => rfl); (case hg => rfl); (case hr => first | (go_simp; done) | (go_simp; rfl)); (case hp => exact (Reps.none _ _)); intro v239 w17 ho18 hb hg_ hnew_; clear hg_ hnew_; (first | rw [← Ny238.out] at ho18 | (simp only [Int.reduceToNat] at ho18; rw [← Ny238.out] at ho18)); have n0_ := Aside0.mk (Kd.R_lower ho18 (below_size (by repeat (first | (with_reducible first | exact HB.out | apply below_alloc | apply pw_below_drewN | apply below_drew1) | exact HB.out | exact Below.refl _ _)))); have n1_ := Aside0.mk (below_step (by repeat (first | (with_reducible first | exact HB.out | apply below_alloc | apply pw_below_drewN | apply below_drew1) | exact HB.out | exact Below.refl _ _)) hb); clear HB; have HO240 := n0_; have HB := n1_; clear n0_ n1_; clear hb ho18; obtain ⟨i019, hi019, _, hsz19, _⟩ := info_parts info5; obtain ⟨A19, hcut19, hA19, hC19⟩ := print_mid_of (P := Try.prog) (Value.int .u8) 0 22 5 .i64 .i64 Try.underlying22 hi019 hsz19 A0 c0 l0 t236 (wrap64 (t236 + (wrap64 (t235)))) (of_decide_eq_true (by first | (with_reducible assumption) | assumption)) (by first | omega | exact of_decide_eq_true (by first | (with_reducible assumption) | assumption)) (of_decide_eq_true (by first | (with_reducible assumption) | assumption)) HC0.out; have HR241 := Aside0.mk (Kd.C_of_reads (h1 := fun _ => rfl) (hA19 _ (Kd.reads_of_C HR0.out))); have HC241 := Aside0.mk hC19; clear hA19 hC19 hi019 hsz19) | ((with_reducible refine gate_builtin (b := .append) (xs := #[.tmp 39, .tmp 46]) rfl ?_); (try (refine gate_guard (by rfl) ?_; dsimp only)); at_builtin; refine Kd.R_append_rows (Kd.int .u8) (w0 := w) w.heap.size rfl (.tmp 39) (.tmp 46) 22 5 (.int .u8 0) 1 rfl Try.underlying22 info5 rfl (by decide) (by omega) v239 y238 ((l0.take ((wrap64 (t236 + (wrap64 (t235)))) : Int).toNat).drop (t236 : Int).toNat) _ _ _ (fun _ => True) (fun _ => False) rfl rfl ?aO ?aR (fun _ _ h => h) (fun _ h => h.elim) ?aF ?aB ?aS ?aL ?_; (case aR => first | (rw [← show ((l0.take ((wrap64 (t236 + (wrap64 (t235)))) : Int).toNat).drop (t236 : Int).toNat).length = ((wrap64 (t236 + (wrap64 (t235)))).toNat - t236.toNat) from (by rw [List.length_drop, List.length_take]; have h_ : ((wrap64 (t236 + (wrap64 (t235)))) : Int) ≤ (l0.length : Int) := of_decide_eq_true (by first | (with_reducible assumption) | assumption); omega)]; repeat (first | exact (Kd.C_below HR241.out HB.out) | (with_reducible refine Kd.C_alloc ?_ _) | (with_reducible refine Kd.C_drewN ?_ _) | (with_reducible refine Kd.C_drew ?_))) | (repeat (first | exact (Kd.C_below HR241.out HB.out) | (with_reducible refine Kd.C_alloc ?_ _) | (with_reducible refine Kd.C_drewN ?_ _) | (with_reducible refine Kd.C_drew ?_)))); (case aB => exact (by repeat (first | (with_reducible first | exact HB.out | apply below_alloc | apply pw_below_drewN | apply below_drew1) | exact HB.out | exact Below.refl _ _))); (case aF => exact (fun _ _ => trivial)); (case aO => exact (by (with_reducible repeat (first | apply Kd.R_alloc | apply Kd.R_drewN | apply Kd.R_drew)); exact HO240.out)); (case aS => exact (below_size (by repeat (first | (with_reducible first | exact HB.out | apply below_alloc | apply pw_below_drewN | apply below_drew1) | exact HB.out | exact Below.refl _ _)))); (case aL => have := LMc15.out; have hlx_ := (show ((l0.take ((wrap64 (t236 + (wrap64 (t235)))) : Int).toNat).drop (t236 : Int).toNat).length = ((wrap64 (t236 + (wrap64 (t235)))).toNat - t236.toNat) from (by rw [List.length_drop, List.length_take]; have h_ : ((wrap64 (t236 + (wrap64 (t235)))) : Int) ≤ (l0.length : Int) := of_decide_eq_true (by first | (with_reducible assumption) | assumption); omega)); omega); intro v243 w20 ho hb hg hat; rw [← Ny242.out] at ho; have n0_ := Aside0.mk (hb); have n1_ := Aside0.mk (ho); clear HB; clear HO240; have HB := n0_; have HO244 := n1_; clear n0_ n1_; clear ho hb hg hat))
                  go_ret3
                  exact ⟨_, by first | rfl | (simp [errW_none, errW_some] <;> rfl) | (simp [*, errW_none, errW_some] <;> rfl), by (with_reducible repeat (first | apply Kd.R_alloc | apply Kd.R_drewN | apply Kd.R_drew)); exact HO244.out, by repeat (first | (with_reducible first | exact HB.out | apply below_alloc | apply pw_below_drewN | apply below_drew1) | exact HB.out | exact Below.refl _ _)⟩
                · rw [if_neg c15] at H
                  exact absurd H (by simp)
              · rw [if_neg c14] at H
                exact absurd H (by simp)
            · rw [if_neg c13] at H
              exact absurd H (by simp)
          · rw [if_neg c12] at H
            exact absurd H (by simp)
  · rw [if_neg c5] at H
    have c5b0 : (t237 == 0) = false := beq_eq_false_iff_ne.mpr c5
    have c5b1 : (t237 != 0) = true := bne_iff_ne.mpr c5
    simp only [Option.some.injEq, Prod.mk.injEq] at H
    obtain ⟨rfl, rfl, rfl⟩ := H
    go_enter Try.func21, Try.ntmps21
    go_wp2_with (first | ((with_reducible refine gate_callee (f := 18) rfl ?_); refine goesL_ (some 15) rfl rfl Try.func18 (by kernel_rfl) rfl #[.slice A0 l0.length c0, .int .i64 a1] rfl (by (try simp only [List.map_toArray, List.map_cons, List.map_nil]); first | done | rfl | (simp only [List.length_drop, List.length_take]; rfl)) ?_; (with_reducible refine (rubricref02_Uint.calls k _ _ l0 a1 t235 t236 t237 _ ?side1 ?side2 A4.out).mono ?_); (case side1 => repeat (first | exact HR0.out | (with_reducible refine Kd.C_alloc ?_ _) | (with_reducible refine Kd.C_drewN ?_ _) | (with_reducible refine Kd.C_drew ?_))); (case side2 => exact HC0.out); rintro e w21 ⟨rfl, hb⟩; refine ⟨_, rfl, ?_⟩; have n0_ := Aside0.mk (below_step (by repeat (first | (with_reducible first | exact HB.out | apply below_alloc | apply pw_below_drewN | apply below_drew1) | exact HB.out | exact Below.refl _ _)) hb); clear HB; have HB := n0_; clear n0_; (try clear hb); (try clear hb2); (try clear hk); (try clear hi)))
    go_ret3
    exact ⟨_, by first | rfl | (simp [errW_none, errW_some] <;> rfl) | (simp [*, errW_none, errW_some] <;> rfl), by first | exact Kd.R_nil _ _ _ _ _ | exact Kd.N_nil _ _ _ _ _ | exact Kd.V_nil _ _ _ _ _ | exact Kd.Q_nil _ _ _ _ _ | exact Kd.S_nil _ _ _ _ _, by repeat (first | (with_reducible first | exact HB.out | apply below_alloc | apply pw_below_drewN | apply below_drew1) | exact HB.out | exact Below.refl _ _)⟩

/-! ### rubriclaw02_WireReads: function 7 -/
mutual
def rubriclaw02_WireReads.j0 : Nat → List Int → Int → Int → List Int → Bool → Option (Bool)
  | 0, _, _, _, _, _ => none
  | k + 1, x0, x1, x2, x7, x80 => if x80 = true then (some false) else ((wire_Bytes.f k x7 x1 x2).bind fun bt262 => ((rubricref02_Bytes.f k x0 x1 x2).bind fun bt267 => (if (strOfNums bt262.1).toList = (strOfNums bt267.1).toList then (if bt262.2.1 = bt267.2.1 then (if bt262.2.2 = bt267.2.2 then (rubriclaw02_WireReads.j1 k x0 x7 bt262.1 ((strOfNums x7).toList != (strOfNums x0).toList)) else (rubriclaw02_WireReads.j1 k x0 x7 bt262.1 true)) else (rubriclaw02_WireReads.j1 k x0 x7 bt262.1 true)) else (rubriclaw02_WireReads.j1 k x0 x7 bt262.1 true))))
def rubriclaw02_WireReads.j1 : Nat → List Int → List Int → List Int → Bool → Option (Bool)
  | 0, _, _, _, _ => none
  | k + 1, x0, x7, x17, x118 => if x118 = true then (some false) else (rubriclaw02_WireReads.l0 k x0 x7 x17 (x17.length : Int) 0)
def rubriclaw02_WireReads.l0 : Nat → List Int → List Int → List Int → Int → Int → Option (Bool)
  | 0, _, _, _, _, _ => none
  | k + 1, x0, x7, x17, x120, x121 => if x121 < x120 then (if 0 ≤ x121 then (if x121 < (x17.length : Int) then (rubriclaw02_WireReads.l0 k x0 x7 (x17.set (x121 : Int).toNat (((rd x17 x121) + 1) % 256)) x120 (wrap64 (x121 + 1))) else (none)) else (none)) else (if (strOfNums x7).toList = (strOfNums x0).toList then ((rubriclaw02_known.f).bind fun t274 => (some t274)) else (some false))
end
def rubriclaw02_WireReads.f (k : Nat) (l0 : List Int) (a1 : Int) (a2 : Int) : Option (Bool) := if (l0.length : Int) > 2000 then ((rubriclaw02_known.f).bind fun t245 => (some t245)) else ((some (([] : List Int) : List Int)).bind fun y246 => (if y246.length + l0.length < 140737488355328 then ((some (y246 ++ l0 : List Int)).bind fun y249 => ((wire_Uint.f k y249 a1).bind fun bt252 => ((rubricref02_Uint.f k l0 a1).bind fun bt255 => ((wire_Int.f k y249 a1).bind fun bt258 => (if bt252.1 = bt255.1 then (if bt252.2.1 = bt255.2.1 then (if bt252.2.2 = bt255.2.2 then (if bt258.2.1 = bt255.2.1 then (if bt258.2.2 = bt255.2.2 then ((rubricref02_Back.f bt255.1).bind fun t261 => (rubriclaw02_WireReads.j0 k l0 a1 a2 y249 (bt258.1 != t261))) else (rubriclaw02_WireReads.j0 k l0 a1 a2 y249 true)) else (rubriclaw02_WireReads.j0 k l0 a1 a2 y249 true)) else (rubriclaw02_WireReads.j0 k l0 a1 a2 y249 true)) else (rubriclaw02_WireReads.j0 k l0 a1 a2 y249 true)) else (rubriclaw02_WireReads.j0 k l0 a1 a2 y249 true)))))) else (none)))
theorem rubriclaw02_WireReads.mono_l : ∀ k, (∀ y0 y1 y2 y3 y4, LeO (rubriclaw02_WireReads.j0 k y0 y1 y2 y3 y4) (rubriclaw02_WireReads.j0 (k + 1) y0 y1 y2 y3 y4)) ∧ (∀ y0 y1 y2 y3, LeO (rubriclaw02_WireReads.j1 k y0 y1 y2 y3) (rubriclaw02_WireReads.j1 (k + 1) y0 y1 y2 y3)) ∧ (∀ y0 y1 y2 y3 y4, LeO (rubriclaw02_WireReads.l0 k y0 y1 y2 y3 y4) (rubriclaw02_WireReads.l0 (k + 1) y0 y1 y2 y3 y4))
  | 0 => ⟨fun _ _ _ _ _ r h => by simp [rubriclaw02_WireReads.j0] at h, fun _ _ _ _ r h => by simp [rubriclaw02_WireReads.j1] at h, fun _ _ _ _ _ r h => by simp [rubriclaw02_WireReads.l0] at h⟩
  | k + 1 => by
    obtain ⟨ih0, ih1, ih2⟩ := rubriclaw02_WireReads.mono_l k
    refine ⟨?_, ?_, ?_⟩
    · intro y0 y1 y2 y3 y4
      unfold rubriclaw02_WireReads.j0
      repeat' first
      | (with_reducible exact ih0 _ _ _ _ _)
      | (with_reducible exact ih1 _ _ _ _)
      | (with_reducible exact ih2 _ _ _ _ _)
      | (with_reducible exact rubricref02_Bytes.mono _ _ _ _)
      | (with_reducible exact rubricref02_Uint.mono _ _ _)
      | (with_reducible exact wire_Bytes.mono _ _ _ _)
      | (with_reducible exact wire_Int.mono _ _ _)
      | (with_reducible exact wire_Uint.mono _ _ _)
      | (with_reducible exact LeO.refl _)
      | (with_reducible exact LeO.none _)
      | (with_reducible refine LeO.ite ?_ ?_)
      | (with_reducible refine LeO.bind ?_ (fun _ => ?_))
      | exact ih0 _ _ _ _ _
      | exact ih1 _ _ _ _
      | exact ih2 _ _ _ _ _
      | exact rubricref02_Bytes.mono _ _ _ _
      | exact rubricref02_Uint.mono _ _ _
      | exact wire_Bytes.mono _ _ _ _
      | exact wire_Int.mono _ _ _
      | exact wire_Uint.mono _ _ _
      | exact LeO.none _
      | refine LeO.ite ?_ ?_
      | refine LeO.bind ?_ (fun _ => ?_)
    · intro y0 y1 y2 y3
      unfold rubriclaw02_WireReads.j1
      repeat' first
      | (with_reducible exact ih0 _ _ _ _ _)
      | (with_reducible exact ih1 _ _ _ _)
      | (with_reducible exact ih2 _ _ _ _ _)
      | (with_reducible exact rubricref02_Bytes.mono _ _ _ _)
      | (with_reducible exact rubricref02_Uint.mono _ _ _)
      | (with_reducible exact wire_Bytes.mono _ _ _ _)
      | (with_reducible exact wire_Int.mono _ _ _)
      | (with_reducible exact wire_Uint.mono _ _ _)
      | (with_reducible exact LeO.refl _)
      | (with_reducible exact LeO.none _)
      | (with_reducible refine LeO.ite ?_ ?_)
      | (with_reducible refine LeO.bind ?_ (fun _ => ?_))
      | exact ih0 _ _ _ _ _
      | exact ih1 _ _ _ _
      | exact ih2 _ _ _ _ _
      | exact rubricref02_Bytes.mono _ _ _ _
      | exact rubricref02_Uint.mono _ _ _
      | exact wire_Bytes.mono _ _ _ _
      | exact wire_Int.mono _ _ _
      | exact wire_Uint.mono _ _ _
      | exact LeO.none _
      | refine LeO.ite ?_ ?_
      | refine LeO.bind ?_ (fun _ => ?_)
    · intro y0 y1 y2 y3 y4
      unfold rubriclaw02_WireReads.l0
      repeat' first
      | (with_reducible exact ih0 _ _ _ _ _)
      | (with_reducible exact ih1 _ _ _ _)
      | (with_reducible exact ih2 _ _ _ _ _)
      | (with_reducible exact rubricref02_Bytes.mono _ _ _ _)
      | (with_reducible exact rubricref02_Uint.mono _ _ _)
      | (with_reducible exact wire_Bytes.mono _ _ _ _)
      | (with_reducible exact wire_Int.mono _ _ _)
      | (with_reducible exact wire_Uint.mono _ _ _)
      | (with_reducible exact LeO.refl _)
      | (with_reducible exact LeO.none _)
      | (with_reducible refine LeO.ite ?_ ?_)
      | (with_reducible refine LeO.bind ?_ (fun _ => ?_))
      | exact ih0 _ _ _ _ _
      | exact ih1 _ _ _ _
      | exact ih2 _ _ _ _ _
      | exact rubricref02_Bytes.mono _ _ _ _
      | exact rubricref02_Uint.mono _ _ _
      | exact wire_Bytes.mono _ _ _ _
      | exact wire_Int.mono _ _ _
      | exact wire_Uint.mono _ _ _
      | exact LeO.none _
      | refine LeO.ite ?_ ?_
      | refine LeO.bind ?_ (fun _ => ?_)
theorem rubriclaw02_WireReads.mono : ∀ a0 a1 a2 k, LeO (rubriclaw02_WireReads.f k a0 a1 a2) (rubriclaw02_WireReads.f (k + 1) a0 a1 a2) := by
  intro a0 a1 a2 k
  obtain ⟨ih0, ih1, ih2⟩ := rubriclaw02_WireReads.mono_l k
  unfold rubriclaw02_WireReads.f
  repeat' first
      | (with_reducible exact ih0 _ _ _ _ _)
      | (with_reducible exact ih1 _ _ _ _)
      | (with_reducible exact ih2 _ _ _ _ _)
      | (with_reducible exact rubricref02_Bytes.mono _ _ _ _)
      | (with_reducible exact rubricref02_Uint.mono _ _ _)
      | (with_reducible exact wire_Bytes.mono _ _ _ _)
      | (with_reducible exact wire_Int.mono _ _ _)
      | (with_reducible exact wire_Uint.mono _ _ _)
      | (with_reducible exact LeO.refl _)
      | (with_reducible exact LeO.none _)
      | (with_reducible refine LeO.ite ?_ ?_)
      | (with_reducible refine LeO.bind ?_ (fun _ => ?_))
      | exact ih0 _ _ _ _ _
      | exact ih1 _ _ _ _
      | exact ih2 _ _ _ _ _
      | exact rubricref02_Bytes.mono _ _ _ _
      | exact rubricref02_Uint.mono _ _ _
      | exact wire_Bytes.mono _ _ _ _
      | exact wire_Int.mono _ _ _
      | exact wire_Uint.mono _ _ _
      | exact LeO.none _
      | refine LeO.ite ?_ ?_
      | refine LeO.bind ?_ (fun _ => ?_)
set_option maxHeartbeats 8000000 in
set_option maxRecDepth 100000 in
theorem rubriclaw02_WireReads.calls (k : Nat) (A0 : Option Addr) (c0 : Nat) (l0 : List Int) (a1 : Int) (a2 : Int) (r : Bool) (w : World) (hr0 : Kd.C (Kd.int .u8) w A0 l0.length l0) (hc0 : l0.length ≤ c0) (h : rubriclaw02_WireReads.f k l0 a1 a2 = some r) :
    Calls Try.prog 7 #[.slice A0 l0.length c0, .int .i64 a1, .int .i64 a2] w fun e w' => e = .returned (.bool r) ∧ Below w.heap.size w w' := by
  have HR0 := Aside0.mk hr0
  have HC0 := Aside0.mk hc0
  clear hr0 hc0
  have HB := Aside0.mk (Below.refl w.heap.size w)
  have H : (if (l0.length : Int) > 2000 then ((rubriclaw02_known.f).bind fun t245 => (some t245)) else ((some (([] : List Int) : List Int)).bind fun y246 => (if y246.length + l0.length < 140737488355328 then ((some (y246 ++ l0 : List Int)).bind fun y249 => ((wire_Uint.f k y249 a1).bind fun bt252 => ((rubricref02_Uint.f k l0 a1).bind fun bt255 => ((wire_Int.f k y249 a1).bind fun bt258 => (if bt252.1 = bt255.1 then (if bt252.2.1 = bt255.2.1 then (if bt252.2.2 = bt255.2.2 then (if bt258.2.1 = bt255.2.1 then (if bt258.2.2 = bt255.2.2 then ((rubricref02_Back.f bt255.1).bind fun t261 => (rubriclaw02_WireReads.j0 k l0 a1 a2 y249 (bt258.1 != t261))) else (rubriclaw02_WireReads.j0 k l0 a1 a2 y249 true)) else (rubriclaw02_WireReads.j0 k l0 a1 a2 y249 true)) else (rubriclaw02_WireReads.j0 k l0 a1 a2 y249 true)) else (rubriclaw02_WireReads.j0 k l0 a1 a2 y249 true)) else (rubriclaw02_WireReads.j0 k l0 a1 a2 y249 true)))))) else (none)))) = some r := h
  clear h
  by_cases c4 : (l0.length : Int) > 2000
  · rw [if_pos c4] at H
    have c4b0 : decide (2000 < (l0.length : Int)) = true := decide_eq_true c4
    have c4b1 : decide (2000 < l0.length) = true := decide_eq_true (by omega)
    clear c4
    replace H := Option.bind_eq_some_iff.mp H
    obtain ⟨t245, A50, H⟩ := H
    replace H : (some t245) = some r := H
    have A5 := Aside0.mk A50
    clear A50
    obtain rfl := Option.some.inj H
    go_enter Try.func7, Try.ntmps7
    go_wp2_with (first | ((with_reducible refine gate_callee (f := 9) rfl ?_); refine goesL_ (some 27) rfl rfl Try.func9 (by kernel_rfl) rfl #[] rfl (by (try simp only [List.map_toArray, List.map_cons, List.map_nil]); first | done | rfl | (simp only [List.length_drop, List.length_take]; rfl)) ?_; (with_reducible refine (rubriclaw02_known.calls  t245 _ A5.out).mono ?_); rintro e w6 ⟨rfl, hb⟩; refine ⟨_, rfl, ?_⟩; have n0_ := Aside0.mk (below_step (by repeat (first | (with_reducible first | exact HB.out | apply below_alloc | apply pw_below_drewN | apply below_drew1) | exact HB.out | exact Below.refl _ _)) hb); clear HB; have HB := n0_; clear n0_; (try clear hb); (try clear hb2); (try clear hk); (try clear hi)))
    go_ret
    exact ⟨by first | rfl | (simp [errW_none, errW_some] <;> rfl) | (simp [*, errW_none, errW_some] <;> rfl), by repeat (first | (with_reducible first | exact HB.out | apply below_alloc | apply pw_below_drewN | apply below_drew1) | exact HB.out | exact Below.refl _ _)⟩
  · rw [if_neg c4] at H
    have c4b0 : decide (2000 < (l0.length : Int)) = false := decide_eq_false c4
    have c4b1 : decide (2000 < l0.length) = false := decide_eq_false (by omega)
    clear c4
    obtain ⟨y246, hy246⟩ : ∃ y_ : List Int, y_ = (([] : List Int)) := ⟨_, rfl⟩
    replace H : (if y246.length + l0.length < 140737488355328 then ((some (y246 ++ l0 : List Int)).bind fun y249 => ((wire_Uint.f k y249 a1).bind fun bt252 => ((rubricref02_Uint.f k l0 a1).bind fun bt255 => ((wire_Int.f k y249 a1).bind fun bt258 => (if bt252.1 = bt255.1 then (if bt252.2.1 = bt255.2.1 then (if bt252.2.2 = bt255.2.2 then (if bt258.2.1 = bt255.2.1 then (if bt258.2.2 = bt255.2.2 then ((rubricref02_Back.f bt255.1).bind fun t261 => (rubriclaw02_WireReads.j0 k l0 a1 a2 y249 (bt258.1 != t261))) else (rubriclaw02_WireReads.j0 k l0 a1 a2 y249 true)) else (rubriclaw02_WireReads.j0 k l0 a1 a2 y249 true)) else (rubriclaw02_WireReads.j0 k l0 a1 a2 y249 true)) else (rubriclaw02_WireReads.j0 k l0 a1 a2 y249 true)) else (rubriclaw02_WireReads.j0 k l0 a1 a2 y249 true)))))) else (none)) = some r := by first | (rw [hy246]; with_reducible exact H) | (have H2_ := (Option.bind_some _ _).symm.trans H; rw [hy246]; with_reducible exact H2_) | (have H2_ := (Option.bind_some _ _).symm.trans H; with_reducible exact H2_) | with_reducible exact H | (rw [hy246]; exact H) | exact H
    have Ny246 := Aside0.mk hy246
    clear hy246
    by_cases c7 : y246.length + l0.length < 140737488355328
    · rw [if_pos c7] at H
      have LMc7 := Aside0.mk c7
      clear c7
      obtain ⟨y249, hy249⟩ : ∃ y_ : List Int, y_ = (y246 ++ l0) := ⟨_, rfl⟩
      replace H : ((wire_Uint.f k y249 a1).bind fun bt252 => ((rubricref02_Uint.f k l0 a1).bind fun bt255 => ((wire_Int.f k y249 a1).bind fun bt258 => (if bt252.1 = bt255.1 then (if bt252.2.1 = bt255.2.1 then (if bt252.2.2 = bt255.2.2 then (if bt258.2.1 = bt255.2.1 then (if bt258.2.2 = bt255.2.2 then ((rubricref02_Back.f bt255.1).bind fun t261 => (rubriclaw02_WireReads.j0 k l0 a1 a2 y249 (bt258.1 != t261))) else (rubriclaw02_WireReads.j0 k l0 a1 a2 y249 true)) else (rubriclaw02_WireReads.j0 k l0 a1 a2 y249 true)) else (rubriclaw02_WireReads.j0 k l0 a1 a2 y249 true)) else (rubriclaw02_WireReads.j0 k l0 a1 a2 y249 true)) else (rubriclaw02_WireReads.j0 k l0 a1 a2 y249 true))))) = some r := by first | (rw [hy249]; with_reducible exact H) | (have H2_ := (Option.bind_some _ _).symm.trans H; rw [hy249]; with_reducible exact H2_) | (have H2_ := (Option.bind_some _ _).symm.trans H; with_reducible exact H2_) | with_reducible exact H | (rw [hy249]; exact H) | exact H
      have Ny249 := Aside0.mk hy249
      clear hy249
      replace H := Option.bind_eq_some_iff.mp H
      obtain ⟨⟨t252, t253, t254⟩, A80, H⟩ := H
      replace H : ((rubricref02_Uint.f k l0 a1).bind fun bt255 => ((wire_Int.f k y249 a1).bind fun bt258 => (if t252 = bt255.1 then (if t253 = bt255.2.1 then (if t254 = bt255.2.2 then (if bt258.2.1 = bt255.2.1 then (if bt258.2.2 = bt255.2.2 then ((rubricref02_Back.f bt255.1).bind fun t261 => (rubriclaw02_WireReads.j0 k l0 a1 a2 y249 (bt258.1 != t261))) else (rubriclaw02_WireReads.j0 k l0 a1 a2 y249 true)) else (rubriclaw02_WireReads.j0 k l0 a1 a2 y249 true)) else (rubriclaw02_WireReads.j0 k l0 a1 a2 y249 true)) else (rubriclaw02_WireReads.j0 k l0 a1 a2 y249 true)) else (rubriclaw02_WireReads.j0 k l0 a1 a2 y249 true)))) = some r := H
      have A8 := Aside0.mk A80
      clear A80
      replace H := Option.bind_eq_some_iff.mp H
      obtain ⟨⟨t255, t256, t257⟩, A90, H⟩ := H
      replace H : ((wire_Int.f k y249 a1).bind fun bt258 => (if t252 = t255 then (if t253 = t256 then (if t254 = t257 then (if bt258.2.1 = t256 then (if bt258.2.2 = t257 then ((rubricref02_Back.f t255).bind fun t261 => (rubriclaw02_WireReads.j0 k l0 a1 a2 y249 (bt258.1 != t261))) else (rubriclaw02_WireReads.j0 k l0 a1 a2 y249 true)) else (rubriclaw02_WireReads.j0 k l0 a1 a2 y249 true)) else (rubriclaw02_WireReads.j0 k l0 a1 a2 y249 true)) else (rubriclaw02_WireReads.j0 k l0 a1 a2 y249 true)) else (rubriclaw02_WireReads.j0 k l0 a1 a2 y249 true))) = some r := H
      have A9 := Aside0.mk A90
      clear A90
      replace H := Option.bind_eq_some_iff.mp H
      obtain ⟨⟨t258, t259, t260⟩, A100, H⟩ := H
      replace H : (if t252 = t255 then (if t253 = t256 then (if t254 = t257 then (if t259 = t256 then (if t260 = t257 then ((rubricref02_Back.f t255).bind fun t261 => (rubriclaw02_WireReads.j0 k l0 a1 a2 y249 (t258 != t261))) else (rubriclaw02_WireReads.j0 k l0 a1 a2 y249 true)) else (rubriclaw02_WireReads.j0 k l0 a1 a2 y249 true)) else (rubriclaw02_WireReads.j0 k l0 a1 a2 y249 true)) else (rubriclaw02_WireReads.j0 k l0 a1 a2 y249 true)) else (rubriclaw02_WireReads.j0 k l0 a1 a2 y249 true)) = some r := H
      have A10 := Aside0.mk A100
      clear A100
      have HC11 := Aside0.mk H
      clear H
      go_enter Try.func7, Try.ntmps7
      go_upto_region 7 with (first | ((with_reducible refine gate_dst (N := 28) rfl ?_); refine Kd.R_lit (Kd.int .u8) _ 5 ?hg (N := 28) ?hd (xs := ([] : List Int)) (inner := []) (ok := fun _ => True) (okp := fun _ => True) ?hr ?hp (fun _ hk => hk) trivial (Below.refl _ _) (Nat.le_refl _) (by simp) ?_; (case hd => rfl); (case hg => rfl); (case hr => first | (go_simp; done) | (go_simp; rfl)); (case hp => exact (Reps.none _ _)); intro v247 w12 ho13 hb hg_ hnew_; clear hg_ hnew_; (first | rw [← Ny246.out] at ho13 | (simp only [Int.reduceToNat] at ho13; rw [← Ny246.out] at ho13)); have n0_ := Aside0.mk (Kd.R_lower ho13 (below_size (by repeat (first | (with_reducible first | exact HB.out | apply below_alloc | apply pw_below_drewN | apply below_drew1) | exact HB.out | exact Below.refl _ _)))); have n1_ := Aside0.mk (below_step (by repeat (first | (with_reducible first | exact HB.out | apply below_alloc | apply pw_below_drewN | apply below_drew1) | exact HB.out | exact Below.refl _ _)) hb); clear HB; have HO248 := n0_; have HB := n1_; clear n0_ n1_; clear hb ho13) | ((with_reducible refine gate_builtin (b := .append) (xs := #[.tmp 28, .tmp 29]) rfl ?_); at_builtin; refine Kd.R_append_rows (Kd.int .u8) (w0 := w) w.heap.size rfl (.tmp 28) (.tmp 29) 22 5 (.int .u8 0) 1 rfl Try.underlying22 info5 rfl (by decide) (by omega) v247 y246 l0 _ _ _ (fun _ => True) (fun _ => False) rfl rfl ?aO ?aR (fun _ _ h => h) (fun _ h => h.elim) ?aF ?aB ?aS ?aL ?_; (case aR => repeat (first | exact (Kd.C_below HR0.out HB.out) | (with_reducible refine Kd.C_alloc ?_ _) | (with_reducible refine Kd.C_drewN ?_ _) | (with_reducible refine Kd.C_drew ?_))); (case aB => exact (by repeat (first | (with_reducible first | exact HB.out | apply below_alloc | apply pw_below_drewN | apply below_drew1) | exact HB.out | exact Below.refl _ _))); (case aF => exact (fun _ _ => trivial)); (case aO => exact (by (with_reducible repeat (first | apply Kd.R_alloc | apply Kd.R_drewN | apply Kd.R_drew)); exact HO248.out)); (case aS => exact (below_size (by repeat (first | (with_reducible first | exact HB.out | apply below_alloc | apply pw_below_drewN | apply below_drew1) | exact HB.out | exact Below.refl _ _)))); (case aL => have := LMc7.out; omega); intro v250 w14 ho hb hg hat; rw [← Ny249.out] at ho; have n0_ := Aside0.mk (hb); have n1_ := Aside0.mk (ho); clear HB; clear HO248; have HB := n0_; have HO251 := n1_; clear n0_ n1_; clear ho hb hg hat; obtain ⟨Ao15, co15, eo15⟩ := Kd.R_slice HO251.out; subst eo15) | ((with_reducible refine gate_callee (f := 10) rfl ?_); refine goesL_ (some 34) rfl rfl Try.func10 (by kernel_rfl) rfl #[.slice Ao15 y249.length co15, .int .i64 a1] rfl (by (try simp only [List.map_toArray, List.map_cons, List.map_nil]); first | done | rfl | (simp only [List.length_drop, List.length_take]; rfl)) ?_; (with_reducible refine (wire_Uint.calls k _ _ y249 a1 t252 t253 t254 _ ?side1 ?side2 A8.out).mono ?_); (case side1 => repeat (first | exact (Kd.R_reads' HO251.out).2.2 | (with_reducible refine Kd.C_alloc ?_ _) | (with_reducible refine Kd.C_drewN ?_ _) | (with_reducible refine Kd.C_drew ?_))); (case side2 => exact (Kd.R_reads' HO251.out).2.1); rintro e w' ⟨rfl, ⟨nd, rfl⟩⟩; refine ⟨_, rfl, ?_⟩) | ((with_reducible refine gate_callee (f := 18) rfl ?_); refine goesL_ (some 41) rfl rfl Try.func18 (by kernel_rfl) rfl #[.slice A0 l0.length c0, .int .i64 a1] rfl (by (try simp only [List.map_toArray, List.map_cons, List.map_nil]); first | done | rfl | (simp only [List.length_drop, List.length_take]; rfl)) ?_; (with_reducible refine (rubricref02_Uint.calls k _ _ l0 a1 t255 t256 t257 _ ?side1 ?side2 A9.out).mono ?_); (case side1 => repeat (first | exact (Kd.C_below HR0.out (by repeat (first | (with_reducible first | exact HB.out | apply below_alloc | apply pw_below_drewN | apply below_drew1) | exact HB.out | exact Below.refl _ _))) | (with_reducible refine Kd.C_alloc ?_ _) | (with_reducible refine Kd.C_drewN ?_ _) | (with_reducible refine Kd.C_drew ?_))); (case side2 => exact HC0.out); rintro e w16 ⟨rfl, hb⟩; refine ⟨_, rfl, ?_⟩; have n0_ := Aside0.mk (Kd.R_below (by (with_reducible repeat (first | apply Kd.R_alloc | apply Kd.R_drewN | apply Kd.R_drew)); exact HO251.out) hb); have n1_ := Aside0.mk (below_step (by repeat (first | (with_reducible first | exact HB.out | apply below_alloc | apply pw_below_drewN | apply below_drew1) | exact HB.out | exact Below.refl _ _)) hb); clear HO251; clear HB; have HO251 := n0_; have HB := n1_; clear n0_ n1_; (try clear hb); (try clear hb2); (try clear hk); (try clear hi)) | ((with_reducible refine gate_callee (f := 19) rfl ?_); refine goesL_ (some 48) rfl rfl Try.func19 (by kernel_rfl) rfl #[.slice Ao15 y249.length co15, .int .i64 a1] rfl (by (try simp only [List.map_toArray, List.map_cons, List.map_nil]); first | done | rfl | (simp only [List.length_drop, List.length_take]; rfl)) ?_; (with_reducible refine (wire_Int.calls k _ _ y249 a1 t258 t259 t260 _ ?side1 ?side2 A10.out).mono ?_); (case side1 => repeat (first | exact (Kd.R_reads' HO251.out).2.2 | (with_reducible refine Kd.C_alloc ?_ _) | (with_reducible refine Kd.C_drewN ?_ _) | (with_reducible refine Kd.C_drew ?_))); (case side2 => exact (Kd.R_reads' HO251.out).2.1); rintro e w' ⟨rfl, ⟨nd, rfl⟩⟩; refine ⟨_, rfl, ?_⟩))
      (try simp only [Act.put, List.setIfInBounds_toArray, List.set_cons_zero, List.set_cons_succ])
      go_cut [80] (fun v80 wc => ∃ (kq : Nat) (x80_10 : Bool), v80 = .bool x80_10 ∧ Aside0 (rubriclaw02_WireReads.j0 kq l0 a1 a2 y249 x80_10 = some r) ∧ Aside0 (kq ≤ k) ∧ Aside0 (Kd.R (Kd.int .u8) 5 wc w.heap.size (fun _ => True) (.slice Ao15 y249.length co15) y249) ∧ Aside0 (Below w.heap.size w wc))
      case first =>
        have H := HC11.out
        clear HC11
        by_cases c17 : t252 = t255
        · rw [if_pos c17] at H
          have c17b0 : (t252 == t255) = true := beq_iff_eq.mpr c17
          have c17b1 : (t252 != t255) = false := bne_eq_false_iff_eq.mpr c17
          clear c17
          (first | rw [c17b0] | (simp only [i64_w, i32_w]; rw [c17b0]) | skip)
          by_cases c18 : t253 = t256
          · rw [if_pos c18] at H
            have c18b0 : (t253 == t256) = true := beq_iff_eq.mpr c18
            have c18b1 : (t253 != t256) = false := bne_eq_false_iff_eq.mpr c18
            clear c18
            by_cases c19 : t254 = t257
            · rw [if_pos c19] at H
              have c19b0 : (t254 == t257) = true := beq_iff_eq.mpr c19
              have c19b1 : (t254 != t257) = false := bne_eq_false_iff_eq.mpr c19
              clear c19
              by_cases c20 : t259 = t256
              · rw [if_pos c20] at H
                have c20b0 : (t259 == t256) = true := beq_iff_eq.mpr c20
                have c20b1 : (t259 != t256) = false := bne_eq_false_iff_eq.mpr c20
                clear c20
                by_cases c21 : t260 = t257
                · rw [if_pos c21] at H
                  have c21b0 : (t260 == t257) = true := beq_iff_eq.mpr c21
                  have c21b1 : (t260 != t257) = false := bne_eq_false_iff_eq.mpr c21
                  clear c21
                  replace H := Option.bind_eq_some_iff.mp H
                  obtain ⟨t261, A220, H⟩ := H
                  replace H : (rubriclaw02_WireReads.j0 k l0 a1 a2 y249 (t258 != t261)) = some r := H
                  have A22 := Aside0.mk A220
                  clear A220
                  have H' := Aside0.mk H
                  clear H
                  go_wp2_with (first | (go_at_call 20; (with_reducible refine (rubricref02_Back.calls t255 t261 _ A22.out).mono ?_); rintro e w' ⟨rfl, ⟨nd, rfl⟩⟩))
                  go_meet
                  case rel => exact ⟨_, ((t258 != t261)), (by first | rfl | (simp; done) | (simp [*]; done)), H', ⟨by first | omega | exact Nat.le_refl _⟩, ⟨by (with_reducible repeat (first | apply Kd.R_alloc | apply Kd.R_drewN | apply Kd.R_drew)); exact HO251.out⟩, ⟨by repeat (first | (with_reducible first | exact HB.out | apply below_alloc | apply pw_below_drewN | apply below_drew1) | exact HB.out | exact Below.refl _ _)⟩⟩
                · rw [if_neg c21] at H
                  have c21b0 : (t260 == t257) = false := beq_eq_false_iff_ne.mpr c21
                  have c21b1 : (t260 != t257) = true := bne_iff_ne.mpr c21
                  have H' := Aside0.mk H
                  clear H
                  go_wp2
                  go_meet
                  case rel => exact ⟨_, (true), (by first | rfl | (simp; done) | (simp [*]; done)), H', ⟨by first | omega | exact Nat.le_refl _⟩, ⟨by (with_reducible repeat (first | apply Kd.R_alloc | apply Kd.R_drewN | apply Kd.R_drew)); exact HO251.out⟩, ⟨by repeat (first | (with_reducible first | exact HB.out | apply below_alloc | apply pw_below_drewN | apply below_drew1) | exact HB.out | exact Below.refl _ _)⟩⟩
              · rw [if_neg c20] at H
                have c20b0 : (t259 == t256) = false := beq_eq_false_iff_ne.mpr c20
                have c20b1 : (t259 != t256) = true := bne_iff_ne.mpr c20
                have H' := Aside0.mk H
                clear H
                go_wp2
                go_meet
                case rel => exact ⟨_, (true), (by first | rfl | (simp; done) | (simp [*]; done)), H', ⟨by first | omega | exact Nat.le_refl _⟩, ⟨by (with_reducible repeat (first | apply Kd.R_alloc | apply Kd.R_drewN | apply Kd.R_drew)); exact HO251.out⟩, ⟨by repeat (first | (with_reducible first | exact HB.out | apply below_alloc | apply pw_below_drewN | apply below_drew1) | exact HB.out | exact Below.refl _ _)⟩⟩
            · rw [if_neg c19] at H
              have c19b0 : (t254 == t257) = false := beq_eq_false_iff_ne.mpr c19
              have c19b1 : (t254 != t257) = true := bne_iff_ne.mpr c19
              have H' := Aside0.mk H
              clear H
              go_wp2
              go_meet
              case rel => exact ⟨_, (true), (by first | rfl | (simp; done) | (simp [*]; done)), H', ⟨by first | omega | exact Nat.le_refl _⟩, ⟨by (with_reducible repeat (first | apply Kd.R_alloc | apply Kd.R_drewN | apply Kd.R_drew)); exact HO251.out⟩, ⟨by repeat (first | (with_reducible first | exact HB.out | apply below_alloc | apply pw_below_drewN | apply below_drew1) | exact HB.out | exact Below.refl _ _)⟩⟩
          · rw [if_neg c18] at H
            have c18b0 : (t253 == t256) = false := beq_eq_false_iff_ne.mpr c18
            have c18b1 : (t253 != t256) = true := bne_iff_ne.mpr c18
            have H' := Aside0.mk H
            clear H
            go_wp2
            go_meet
            case rel => exact ⟨_, (true), (by first | rfl | (simp; done) | (simp [*]; done)), H', ⟨by first | omega | exact Nat.le_refl _⟩, ⟨by (with_reducible repeat (first | apply Kd.R_alloc | apply Kd.R_drewN | apply Kd.R_drew)); exact HO251.out⟩, ⟨by repeat (first | (with_reducible first | exact HB.out | apply below_alloc | apply pw_below_drewN | apply below_drew1) | exact HB.out | exact Below.refl _ _)⟩⟩
        · rw [if_neg c17] at H
          have c17b0 : (t252 == t255) = false := beq_eq_false_iff_ne.mpr c17
          have c17b1 : (t252 != t255) = true := bne_iff_ne.mpr c17
          (first | rw [c17b0] | (simp only [i64_w, i32_w]; rw [c17b0]) | skip)
          have H' := Aside0.mk H
          clear H
          go_wp2
          go_meet
          case rel => exact ⟨_, (true), (by first | rfl | (simp; done) | (simp [*]; done)), H', ⟨by first | omega | exact Nat.le_refl _⟩, ⟨by (with_reducible repeat (first | apply Kd.R_alloc | apply Kd.R_drewN | apply Kd.R_drew)); exact HO251.out⟩, ⟨by repeat (first | (with_reducible first | exact HB.out | apply below_alloc | apply pw_below_drewN | apply below_drew1) | exact HB.out | exact Below.refl _ _)⟩⟩
      case rest =>
        clear HC11
        try clear c1
        try clear c2
        try clear p2
        try clear c4
        try clear c4b0
        try clear c4b0d c4b0p
        try clear c4b0d
        try clear c4b1
        try clear c4b1d c4b1p
        try clear c4b1d
        try clear c7
        try clear c9
        try clear c10
        try clear c17
        try clear c17b0
        try clear c17b0d c17b0p
        try clear c17b0d
        try clear c17b1
        try clear c17b1d c17b1p
        try clear c17b1d
        try clear c18
        try clear c18b0
        try clear c18b0d c18b0p
        try clear c18b0d
        try clear c18b1
        try clear c18b1d c18b1p
        try clear c18b1d
        try clear c19
        try clear c19b0
        try clear c19b0d c19b0p
        try clear c19b0d
        try clear c19b1
        try clear c19b1d c19b1p
        try clear c19b1d
        try clear c20
        try clear c20b0
        try clear c20b0d c20b0p
        try clear c20b0d
        try clear c20b1
        try clear c20b1d c20b1p
        try clear c20b1d
        try clear c21
        try clear c21b0
        try clear c21b0d c21b0p
        try clear c21b0d
        try clear c21b1
        try clear c21b1d c21b1p
        try clear c21b1d
        obtain ⟨kq, x80_10, rfl, HA, HJ10, HO_7, HB⟩ := hcut
        cases kq with
        | zero => exact absurd HA.out (by simp [rubriclaw02_WireReads.j0])
        | succ kj10 =>
          have H := HA.out
          clear HA
          simp only [rubriclaw02_WireReads.j0] at H
          by_cases c23 : x80_10 = true
          · subst c23
            have H1 : (some false) = some r := by rw [if_pos rfl] at H; exact H
            clear H
            have H := H1
            clear H1
            obtain rfl := Option.some.inj H
            go_wp2
            go_ret
            exact ⟨by first | rfl | (simp [errW_none, errW_some] <;> rfl) | (simp [*, errW_none, errW_some] <;> rfl), by repeat (first | (with_reducible first | exact HB.out | apply below_alloc | apply pw_below_drewN | apply below_drew1) | exact HB.out | exact Below.refl _ _)⟩
          · replace c23 := Bool.eq_false_iff.mpr c23
            subst c23
            have H1 : ((wire_Bytes.f kj10 y249 a1 a2).bind fun bt262 => ((rubricref02_Bytes.f kj10 l0 a1 a2).bind fun bt267 => (if (strOfNums bt262.1).toList = (strOfNums bt267.1).toList then (if bt262.2.1 = bt267.2.1 then (if bt262.2.2 = bt267.2.2 then (rubriclaw02_WireReads.j1 kj10 l0 y249 bt262.1 ((strOfNums y249).toList != (strOfNums l0).toList)) else (rubriclaw02_WireReads.j1 kj10 l0 y249 bt262.1 true)) else (rubriclaw02_WireReads.j1 kj10 l0 y249 bt262.1 true)) else (rubriclaw02_WireReads.j1 kj10 l0 y249 bt262.1 true)))) = some r := by rw [if_neg (show ¬ (false = true) by decide)] at H; exact H
            clear H
            have H := H1
            clear H1
            replace H := Option.bind_eq_some_iff.mp H
            obtain ⟨⟨t262, t263, t264⟩, A240, H⟩ := H
            replace H : ((rubricref02_Bytes.f kj10 l0 a1 a2).bind fun bt267 => (if (strOfNums t262).toList = (strOfNums bt267.1).toList then (if t263 = bt267.2.1 then (if t264 = bt267.2.2 then (rubriclaw02_WireReads.j1 kj10 l0 y249 t262 ((strOfNums y249).toList != (strOfNums l0).toList)) else (rubriclaw02_WireReads.j1 kj10 l0 y249 t262 true)) else (rubriclaw02_WireReads.j1 kj10 l0 y249 t262 true)) else (rubriclaw02_WireReads.j1 kj10 l0 y249 t262 true))) = some r := H
            have A24 := Aside0.mk A240
            clear A240
            replace H := Option.bind_eq_some_iff.mp H
            obtain ⟨⟨t267, t268, t269⟩, A250, H⟩ := H
            replace H : (if (strOfNums t262).toList = (strOfNums t267).toList then (if t263 = t268 then (if t264 = t269 then (rubriclaw02_WireReads.j1 kj10 l0 y249 t262 ((strOfNums y249).toList != (strOfNums l0).toList)) else (rubriclaw02_WireReads.j1 kj10 l0 y249 t262 true)) else (rubriclaw02_WireReads.j1 kj10 l0 y249 t262 true)) else (rubriclaw02_WireReads.j1 kj10 l0 y249 t262 true)) = some r := H
            have A25 := Aside0.mk A250
            clear A250
            have HC26 := Aside0.mk H
            clear H
            go_upto_region 11 with (first | ((with_reducible refine gate_callee (f := 17) rfl ?_); refine goesL_ (some 85) rfl rfl Try.func17 (by kernel_rfl) rfl #[.slice Ao15 y249.length co15, .int .i64 a1, .int .i64 a2] rfl (by (try simp only [List.map_toArray, List.map_cons, List.map_nil]); first | done | rfl | (simp only [List.length_drop, List.length_take]; rfl)) ?_; (with_reducible refine (wire_Bytes.calls kj10 _ _ y249 a1 a2 t262 t263 t264 _ ?side1 ?side2 A24.out).mono ?_); (case side1 => repeat (first | exact (Kd.R_reads' HO_7.out).2.2 | (with_reducible refine Kd.C_alloc ?_ _) | (with_reducible refine Kd.C_drewN ?_ _) | (with_reducible refine Kd.C_drew ?_))); (case side2 => exact (Kd.R_reads' HO_7.out).2.1); rintro e w27 ⟨v265, rfl, ho0, hb⟩; refine ⟨_, rfl, ?_⟩; have n0_ := Aside0.mk (Kd.R_elder' (by (with_reducible repeat (first | apply Kd.R_alloc | apply Kd.R_drewN | apply Kd.R_drew)); exact HO_7.out) (Kd.R_base ho0) hb); have n1_ := Aside0.mk (Kd.R_lower (Kd.R_new' ho0 (Kd.R_lt (by (with_reducible repeat (first | apply Kd.R_alloc | apply Kd.R_drewN | apply Kd.R_drew)); exact HO_7.out))) (below_size (by repeat (first | (with_reducible first | exact HB.out | apply below_alloc | apply pw_below_drewN | apply below_drew1) | exact HB.out | exact Below.refl _ _)))); have n2_ := Aside0.mk (below_step (by repeat (first | (with_reducible first | exact HB.out | apply below_alloc | apply pw_below_drewN | apply below_drew1) | exact HB.out | exact Below.refl _ _)) hb); clear HO_7; clear HB; have HO_7 := n0_; have HO266 := n1_; have HB := n2_; clear n0_ n1_ n2_; (try clear hb); (try clear hb2); (try clear hk); (try clear hi); (try clear ho0)) | ((with_reducible refine gate_callee (f := 21) rfl ?_); refine goesL_ (some 93) rfl rfl Try.func21 (by kernel_rfl) rfl #[.slice A0 l0.length c0, .int .i64 a1, .int .i64 a2] rfl (by (try simp only [List.map_toArray, List.map_cons, List.map_nil]); first | done | rfl | (simp only [List.length_drop, List.length_take]; rfl)) ?_; (with_reducible refine (rubricref02_Bytes.calls kj10 _ _ l0 a1 a2 t267 t268 t269 _ ?side1 ?side2 A25.out).mono ?_); (case side1 => repeat (first | exact (Kd.C_below HR0.out HB.out) | (with_reducible refine Kd.C_alloc ?_ _) | (with_reducible refine Kd.C_drewN ?_ _) | (with_reducible refine Kd.C_drew ?_))); (case side2 => exact HC0.out); rintro e w28 ⟨v270, rfl, ho0, hb⟩; refine ⟨_, rfl, ?_⟩; have n0_ := Aside0.mk (Kd.R_elder' (by (with_reducible repeat (first | apply Kd.R_alloc | apply Kd.R_drewN | apply Kd.R_drew)); exact HO_7.out) (Kd.R_base ho0) hb); have n1_ := Aside0.mk (Kd.R_elder' (by (with_reducible repeat (first | apply Kd.R_alloc | apply Kd.R_drewN | apply Kd.R_drew)); exact HO266.out) (Kd.R_base ho0) hb); have n2_ := Aside0.mk (Kd.R_lower (Kd.R_new' (Kd.R_new' ho0 (Kd.R_lt (by (with_reducible repeat (first | apply Kd.R_alloc | apply Kd.R_drewN | apply Kd.R_drew)); exact HO_7.out))) (Kd.R_lt (by (with_reducible repeat (first | apply Kd.R_alloc | apply Kd.R_drewN | apply Kd.R_drew)); exact HO266.out))) (below_size (by repeat (first | (with_reducible first | exact HB.out | apply below_alloc | apply pw_below_drewN | apply below_drew1) | exact HB.out | exact Below.refl _ _)))); have n3_ := Aside0.mk (below_step (by repeat (first | (with_reducible first | exact HB.out | apply below_alloc | apply pw_below_drewN | apply below_drew1) | exact HB.out | exact Below.refl _ _)) hb); clear HO_7; clear HO266; clear HB; have HO_7 := n0_; have HO266 := n1_; have HO271 := n2_; have HB := n3_; clear n0_ n1_ n2_ n3_; (try clear hb); (try clear hb2); (try clear hk); (try clear hi); (try clear ho0)))
            (try simp only [Act.put, List.setIfInBounds_toArray, List.set_cons_zero, List.set_cons_succ])
            go_cut [118] (fun v118 wc => ∃ (kq : Nat) (x118_25 : Bool), v118 = .bool x118_25 ∧ Aside0 (rubriclaw02_WireReads.j1 kq l0 y249 t262 x118_25 = some r) ∧ Aside0 (kq ≤ kj10) ∧ Aside0 (Kd.R (Kd.int .u8) 5 wc w.heap.size (fun k_ => some k_ ≠ (v265 : Value).ownBlock) (.slice Ao15 y249.length co15) y249) ∧ Aside0 (Kd.R (Kd.int .u8) 5 wc w.heap.size (fun k_ => some k_ ≠ ((.slice Ao15 y249.length co15) : Value).ownBlock) v265 t262) ∧ Aside0 (Below w.heap.size w wc))
            case first =>
              have H := HC26.out
              clear HC26
              by_cases c29 : (strOfNums t262).toList = (strOfNums t267).toList
              · rw [if_pos c29] at H
                have c29b0 : ((strOfNums t262).toList == (strOfNums t267).toList) = true := beq_iff_eq.mpr c29
                have c29b1 : ((strOfNums t262).toList != (strOfNums t267).toList) = false := bne_eq_false_iff_eq.mpr c29
                clear c29
                (first | rw [c29b0] | (simp only [i64_w, i32_w]; rw [c29b0]) | skip)
                by_cases c30 : t263 = t268
                · rw [if_pos c30] at H
                  have c30b0 : (t263 == t268) = true := beq_iff_eq.mpr c30
                  have c30b1 : (t263 != t268) = false := bne_eq_false_iff_eq.mpr c30
                  clear c30
                  by_cases c31 : t264 = t269
                  · rw [if_pos c31] at H
                    have c31b0 : (t264 == t269) = true := beq_iff_eq.mpr c31
                    have c31b1 : (t264 != t269) = false := bne_eq_false_iff_eq.mpr c31
                    clear c31
                    have H' := Aside0.mk H
                    clear H
                    have hcvq32 := fun n_ : Nat => own_string (P := Try.prog) Try.underlying22 Try.underlying5 Try.underlying9 (Kd.own_of_R (Kd.R_drewN HO266.out n_))
                    have hcv33 := own_string (P := Try.prog) Try.underlying22 Try.underlying5 Try.underlying9 (Kd.own_of_R HO266.out)
                    have hcvq34 := fun n_ : Nat => own_string (P := Try.prog) Try.underlying22 Try.underlying5 Try.underlying9 (Kd.own_of_R (Kd.R_drewN HO271.out n_))
                    have hcv35 := own_string (P := Try.prog) Try.underlying22 Try.underlying5 Try.underlying9 (Kd.own_of_R HO271.out)
                    have hcvq36 := fun n_ : Nat => own_string (P := Try.prog) Try.underlying22 Try.underlying5 Try.underlying9 (Kd.own_of_R (Kd.R_drewN HO_7.out n_))
                    have hcv37 := own_string (P := Try.prog) Try.underlying22 Try.underlying5 Try.underlying9 (Kd.own_of_R HO_7.out)
                    have hcvq38 := fun n_ : Nat => Kd.C_string (P := Try.prog) (A := A0) (c := c0) Try.underlying22 Try.underlying5 Try.underlying9 (Kd.C_drewN (Kd.C_below HR0.out HB.out) n_)
                    have hcv39 := Kd.C_string (P := Try.prog) (A := A0) (c := c0) Try.underlying22 Try.underlying5 Try.underlying9 (Kd.C_below HR0.out HB.out)
                    go_wp2
                    go_meet
                    case rel => exact ⟨_, (((strOfNums y249).toList != (strOfNums l0).toList)), (by first | rfl | (simp; done) | (simp [*]; done)), H', ⟨by have := HJ10.out; first | omega | exact Nat.le_refl _⟩, ⟨by (with_reducible repeat (first | apply Kd.R_alloc | apply Kd.R_drewN | apply Kd.R_drew)); exact Kd.R_mono HO_7.out (fun _ hk => hk.1.2)⟩, ⟨by (with_reducible repeat (first | apply Kd.R_alloc | apply Kd.R_drewN | apply Kd.R_drew)); exact Kd.R_mono HO266.out (fun _ hk => hk.1.2)⟩, ⟨by repeat (first | (with_reducible first | exact HB.out | apply below_alloc | apply pw_below_drewN | apply below_drew1) | exact HB.out | exact Below.refl _ _)⟩⟩
                  · rw [if_neg c31] at H
                    have c31b0 : (t264 == t269) = false := beq_eq_false_iff_ne.mpr c31
                    have c31b1 : (t264 != t269) = true := bne_iff_ne.mpr c31
                    have H' := Aside0.mk H
                    clear H
                    have hcvq40 := fun n_ : Nat => own_string (P := Try.prog) Try.underlying22 Try.underlying5 Try.underlying9 (Kd.own_of_R (Kd.R_drewN HO266.out n_))
                    have hcv41 := own_string (P := Try.prog) Try.underlying22 Try.underlying5 Try.underlying9 (Kd.own_of_R HO266.out)
                    have hcvq42 := fun n_ : Nat => own_string (P := Try.prog) Try.underlying22 Try.underlying5 Try.underlying9 (Kd.own_of_R (Kd.R_drewN HO271.out n_))
                    have hcv43 := own_string (P := Try.prog) Try.underlying22 Try.underlying5 Try.underlying9 (Kd.own_of_R HO271.out)
                    go_wp2
                    go_meet
                    case rel => exact ⟨_, (true), (by first | rfl | (simp; done) | (simp [*]; done)), H', ⟨by have := HJ10.out; first | omega | exact Nat.le_refl _⟩, ⟨by (with_reducible repeat (first | apply Kd.R_alloc | apply Kd.R_drewN | apply Kd.R_drew)); exact Kd.R_mono HO_7.out (fun _ hk => hk.1.2)⟩, ⟨by (with_reducible repeat (first | apply Kd.R_alloc | apply Kd.R_drewN | apply Kd.R_drew)); exact Kd.R_mono HO266.out (fun _ hk => hk.1.2)⟩, ⟨by repeat (first | (with_reducible first | exact HB.out | apply below_alloc | apply pw_below_drewN | apply below_drew1) | exact HB.out | exact Below.refl _ _)⟩⟩
                · rw [if_neg c30] at H
                  have c30b0 : (t263 == t268) = false := beq_eq_false_iff_ne.mpr c30
                  have c30b1 : (t263 != t268) = true := bne_iff_ne.mpr c30
                  have H' := Aside0.mk H
                  clear H
                  have hcvq44 := fun n_ : Nat => own_string (P := Try.prog) Try.underlying22 Try.underlying5 Try.underlying9 (Kd.own_of_R (Kd.R_drewN HO266.out n_))
                  have hcv45 := own_string (P := Try.prog) Try.underlying22 Try.underlying5 Try.underlying9 (Kd.own_of_R HO266.out)
                  have hcvq46 := fun n_ : Nat => own_string (P := Try.prog) Try.underlying22 Try.underlying5 Try.underlying9 (Kd.own_of_R (Kd.R_drewN HO271.out n_))
                  have hcv47 := own_string (P := Try.prog) Try.underlying22 Try.underlying5 Try.underlying9 (Kd.own_of_R HO271.out)
                  go_wp2
                  go_meet
                  case rel => exact ⟨_, (true), (by first | rfl | (simp; done) | (simp [*]; done)), H', ⟨by have := HJ10.out; first | omega | exact Nat.le_refl _⟩, ⟨by (with_reducible repeat (first | apply Kd.R_alloc | apply Kd.R_drewN | apply Kd.R_drew)); exact Kd.R_mono HO_7.out (fun _ hk => hk.1.2)⟩, ⟨by (with_reducible repeat (first | apply Kd.R_alloc | apply Kd.R_drewN | apply Kd.R_drew)); exact Kd.R_mono HO266.out (fun _ hk => hk.1.2)⟩, ⟨by repeat (first | (with_reducible first | exact HB.out | apply below_alloc | apply pw_below_drewN | apply below_drew1) | exact HB.out | exact Below.refl _ _)⟩⟩
              · rw [if_neg c29] at H
                have c29b0 : ((strOfNums t262).toList == (strOfNums t267).toList) = false := beq_eq_false_iff_ne.mpr c29
                have c29b1 : ((strOfNums t262).toList != (strOfNums t267).toList) = true := bne_iff_ne.mpr c29
                (first | rw [c29b0] | (simp only [i64_w, i32_w]; rw [c29b0]) | skip)
                have H' := Aside0.mk H
                clear H
                have hcvq48 := fun n_ : Nat => own_string (P := Try.prog) Try.underlying22 Try.underlying5 Try.underlying9 (Kd.own_of_R (Kd.R_drewN HO266.out n_))
                have hcv49 := own_string (P := Try.prog) Try.underlying22 Try.underlying5 Try.underlying9 (Kd.own_of_R HO266.out)
                have hcvq50 := fun n_ : Nat => own_string (P := Try.prog) Try.underlying22 Try.underlying5 Try.underlying9 (Kd.own_of_R (Kd.R_drewN HO271.out n_))
                have hcv51 := own_string (P := Try.prog) Try.underlying22 Try.underlying5 Try.underlying9 (Kd.own_of_R HO271.out)
                go_wp2
                go_meet
                case rel => exact ⟨_, (true), (by first | rfl | (simp; done) | (simp [*]; done)), H', ⟨by have := HJ10.out; first | omega | exact Nat.le_refl _⟩, ⟨by (with_reducible repeat (first | apply Kd.R_alloc | apply Kd.R_drewN | apply Kd.R_drew)); exact Kd.R_mono HO_7.out (fun _ hk => hk.1.2)⟩, ⟨by (with_reducible repeat (first | apply Kd.R_alloc | apply Kd.R_drewN | apply Kd.R_drew)); exact Kd.R_mono HO266.out (fun _ hk => hk.1.2)⟩, ⟨by repeat (first | (with_reducible first | exact HB.out | apply below_alloc | apply pw_below_drewN | apply below_drew1) | exact HB.out | exact Below.refl _ _)⟩⟩
            case rest =>
              clear HC26
              try clear c1
              try clear c2
              try clear p2
              try clear c3
              try clear q3
              try clear hcv3
              try clear c4
              try clear c4b0
              try clear c4b0d c4b0p
              try clear c4b0d
              try clear c4b1
              try clear c4b1d c4b1p
              try clear c4b1d
              try clear q4
              try clear hcv4
              try clear q5
              try clear hcv5
              try clear c7
              try clear c9
              try clear c10
              try clear c17
              try clear c17b0
              try clear c17b0d c17b0p
              try clear c17b0d
              try clear c17b1
              try clear c17b1d c17b1p
              try clear c17b1d
              try clear c18
              try clear c18b0
              try clear c18b0d c18b0p
              try clear c18b0d
              try clear c18b1
              try clear c18b1d c18b1p
              try clear c18b1d
              try clear c19
              try clear c19b0
              try clear c19b0d c19b0p
              try clear c19b0d
              try clear c19b1
              try clear c19b1d c19b1p
              try clear c19b1d
              try clear c20
              try clear c20b0
              try clear c20b0d c20b0p
              try clear c20b0d
              try clear c20b1
              try clear c20b1d c20b1p
              try clear c20b1d
              try clear c21
              try clear c21b0
              try clear c21b0d c21b0p
              try clear c21b0d
              try clear c21b1
              try clear c21b1d c21b1p
              try clear c21b1d
              try clear c23
              try clear c29
              try clear c29b0
              try clear c29b0d c29b0p
              try clear c29b0d
              try clear c29b1
              try clear c29b1d c29b1p
              try clear c29b1d
              try clear c30
              try clear c30b0
              try clear c30b0d c30b0p
              try clear c30b0d
              try clear c30b1
              try clear c30b1d c30b1p
              try clear c30b1d
              try clear c31
              try clear c31b0
              try clear c31b0d c31b0p
              try clear c31b0d
              try clear c31b1
              try clear c31b1d c31b1p
              try clear c31b1d
              try clear q32
              try clear hcv33
              try clear q34
              try clear hcv35
              try clear q36
              try clear hcv37
              try clear q38
              try clear hcv39
              try clear q40
              try clear hcv41
              try clear q42
              try clear hcv43
              try clear q44
              try clear hcv45
              try clear q46
              try clear hcv47
              try clear q48
              try clear hcv49
              try clear q50
              try clear hcv51
              try clear p2
              obtain ⟨kq, x118_25, rfl, HA, HJ25, HO_7, HO_17, HB⟩ := hcut
              cases kq with
              | zero => exact absurd HA.out (by simp [rubriclaw02_WireReads.j1])
              | succ kj25 =>
                have H := HA.out
                clear HA
                simp only [rubriclaw02_WireReads.j1] at H
                by_cases c52 : x118_25 = true
                · subst c52
                  have H1 : (some false) = some r := by rw [if_pos rfl] at H; exact H
                  clear H
                  have H := H1
                  clear H1
                  obtain rfl := Option.some.inj H
                  go_wp2
                  go_ret
                  exact ⟨by first | rfl | (simp [errW_none, errW_some] <;> rfl) | (simp [*, errW_none, errW_some] <;> rfl), by repeat (first | (with_reducible first | exact HB.out | apply below_alloc | apply pw_below_drewN | apply below_drew1) | exact HB.out | exact Below.refl _ _)⟩
                · replace c52 := Bool.eq_false_iff.mpr c52
                  subst c52
                  have H1 : (rubriclaw02_WireReads.l0 kj25 l0 y249 t262 (t262.length : Int) 0) = some r := by rw [if_neg (show ¬ (false = true) by decide)] at H; exact H
                  clear H
                  have H := H1
                  clear H1
                  have H' := Aside0.mk H
                  clear H
                  obtain ⟨Ao53, co53, eo53⟩ := Kd.R_slice HO_17.out
                  subst eo53
                  go_wp2
                  go_loopg [121] kj25 (fun kq v121 w' => ∃ (x17_3 : List Int) (x121_3 : Int), v121 = .int .i64 x121_3 ∧ Aside0 (rubriclaw02_WireReads.l0 kq l0 y249 x17_3 (t262.length : Int) x121_3 = some r) ∧ Aside0 (kq ≤ kj25) ∧ Aside0 (Kd.R (Kd.int .u8) 5 w' w.heap.size (fun k_ => some k_ ≠ ((.slice Ao53 t262.length co53) : Value).ownBlock) (.slice Ao15 y249.length co15) y249) ∧ Aside0 (Kd.R (Kd.int .u8) 5 w' w.heap.size (fun k_ => some k_ ≠ ((.slice Ao15 y249.length co15) : Value).ownBlock) (.slice Ao53 t262.length co53) x17_3) ∧ Aside0 (Below w.heap.size w w'))
                  case atStart => exact ⟨(t262), (0), (by first | rfl | (simp; done) | (simp [*]; done)), H', ⟨Nat.le_refl _⟩, ⟨by (with_reducible repeat (first | apply Kd.R_alloc | apply Kd.R_drewN | apply Kd.R_drew)); exact HO_7.out⟩, ⟨by (with_reducible repeat (first | apply Kd.R_alloc | apply Kd.R_drewN | apply Kd.R_drew)); exact HO_17.out⟩, ⟨by repeat (first | (with_reducible first | exact HB.out | apply below_alloc | apply pw_below_drewN | apply below_drew1) | exact HB.out | exact Below.refl _ _)⟩⟩
                  case round =>
                    clear H'
                    try clear c1
                    try clear c2
                    try clear p2
                    try clear c3
                    try clear q3
                    try clear hcv3
                    try clear c4
                    try clear c4b0
                    try clear c4b0d c4b0p
                    try clear c4b0d
                    try clear c4b1
                    try clear c4b1d c4b1p
                    try clear c4b1d
                    try clear q4
                    try clear hcv4
                    try clear c5
                    try clear q5
                    try clear hcv5
                    try clear c7
                    try clear c9
                    try clear c10
                    try clear c17
                    try clear c17b0
                    try clear c17b0d c17b0p
                    try clear c17b0d
                    try clear c17b1
                    try clear c17b1d c17b1p
                    try clear c17b1d
                    try clear c18
                    try clear c18b0
                    try clear c18b0d c18b0p
                    try clear c18b0d
                    try clear c18b1
                    try clear c18b1d c18b1p
                    try clear c18b1d
                    try clear c19
                    try clear c19b0
                    try clear c19b0d c19b0p
                    try clear c19b0d
                    try clear c19b1
                    try clear c19b1d c19b1p
                    try clear c19b1d
                    try clear c20
                    try clear c20b0
                    try clear c20b0d c20b0p
                    try clear c20b0d
                    try clear c20b1
                    try clear c20b1d c20b1p
                    try clear c20b1d
                    try clear c21
                    try clear c21b0
                    try clear c21b0d c21b0p
                    try clear c21b0d
                    try clear c21b1
                    try clear c21b1d c21b1p
                    try clear c21b1d
                    try clear c23
                    try clear c29
                    try clear c29b0
                    try clear c29b0d c29b0p
                    try clear c29b0d
                    try clear c29b1
                    try clear c29b1d c29b1p
                    try clear c29b1d
                    try clear c30
                    try clear c30b0
                    try clear c30b0d c30b0p
                    try clear c30b0d
                    try clear c30b1
                    try clear c30b1d c30b1p
                    try clear c30b1d
                    try clear c31
                    try clear c31b0
                    try clear c31b0d c31b0p
                    try clear c31b0d
                    try clear c31b1
                    try clear c31b1d c31b1p
                    try clear c31b1d
                    try clear q32
                    try clear hcv33
                    try clear q34
                    try clear hcv35
                    try clear q36
                    try clear hcv37
                    try clear q38
                    try clear hcv39
                    try clear q40
                    try clear hcv41
                    try clear q42
                    try clear hcv43
                    try clear q44
                    try clear hcv45
                    try clear q46
                    try clear hcv47
                    try clear q48
                    try clear hcv49
                    try clear q50
                    try clear hcv51
                    try clear c52
                    try clear p2
                    try clear q3
                    try clear q32
                    try clear q34
                    try clear q36
                    try clear q38
                    try clear q4
                    try clear q40
                    try clear q42
                    try clear q44
                    try clear q46
                    try clear q48
                    try clear q5
                    try clear q50
                    obtain ⟨x17_3, x121_3, rfl, HA, HK3, HO_7, HO_17, HB⟩ := hrel
                    have hl17_3 := (Kd.R_reads' HO_17.out).1
                    rw [hl17_3] at HO_17
                    (try simp only [hl17_3])
                    (try simp only [hl17_3] at HO_7)
                    cases gk with
                    | zero => exact absurd HA.out (by simp [rubriclaw02_WireReads.l0])
                    | succ k3 =>
                      have H := HA.out
                      clear HA
                      simp only [rubriclaw02_WireReads.l0] at H
                      by_cases c54 : x121_3 < (t262.length : Int)
                      · rw [if_pos c54] at H
                        have c54b0 : decide (x121_3 < (t262.length : Int)) = true := decide_eq_true c54
                        (try (have c54b0l := c54b0; simp only [hl17_3] at c54b0l))
                        clear c54
                        by_cases c55 : 0 ≤ x121_3
                        · rw [if_pos c55] at H
                          have c55b0 : decide (0 ≤ x121_3) = true := decide_eq_true c55
                          clear c55
                          by_cases c56 : x121_3 < (x17_3.length : Int)
                          · rw [if_pos c56] at H
                            have c56b0 : decide (x121_3 < (x17_3.length : Int)) = true := decide_eq_true c56
                            (try (have c56b0l := c56b0; simp only [hl17_3] at c56b0l))
                            clear c56
                            obtain ⟨y273, hy273⟩ : ∃ y_ : List Int, y_ = (x17_3.set (x121_3 : Int).toNat (((rd x17_3 x121_3) + 1) % 256)) := ⟨_, rfl⟩
                            replace H : (rubriclaw02_WireReads.l0 k3 l0 y249 y273 (t262.length : Int) (wrap64 (x121_3 + 1))) = some r := by first | (rw [hy273]; with_reducible exact H) | (have H2_ := (Option.bind_some _ _).symm.trans H; rw [hy273]; with_reducible exact H2_) | (have H2_ := (Option.bind_some _ _).symm.trans H; with_reducible exact H2_) | with_reducible exact H | (rw [hy273]; exact H) | exact H
                            have Ny273 := Aside0.mk hy273
                            clear hy273
                            have H' := Aside0.mk H
                            clear H
                            have p272 : 0 ≤ (x121_3 : Int) := of_decide_eq_true (by first | (with_reducible assumption) | assumption)
                            have q272 : x121_3 < (x17_3.length : Int) := of_decide_eq_true (by first | (with_reducible assumption) | assumption)
                            obtain ⟨ad272, e272, hx272_0⟩ := Kd.at_int (Kd.R_reads' HO_17.out).2.2 x121_3 p272 q272
                            cases e272
                            replace p272 := eq_true p272
                            replace q272 := eq_true q272
                            have p57 : 0 ≤ (x121_3 : Int) := of_decide_eq_true (by first | (with_reducible assumption) | assumption)
                            have q57 : (x121_3 : Int) < ((x17_3.length : Int) : Int) := of_decide_eq_true (by first | (with_reducible assumption) | assumption)
                            obtain ⟨go57, co57, eo57, gb57, gl57, cl57, HG57⟩ := Kd.R_form HO_17.out (by omega)
                            (first | cases eo57 | (injection eo57 with ea_ en_ ec_; (first | subst ea_ | (injection ea_ with ea_; subst ea_)); subst ec_; clear en_))
                            have GB57 := Aside0.mk gb57
                            have GG57 := Aside0.mk HG57
                            clear gb57 gl57 HG57
                            (first | simp only [add_plain] at hx272_0 | skip)
                            obtain ⟨hx57_0, hf57_0⟩ := Kd.R_celln 0 HO_17.out (x121_3 : Int) p57 q57
                            replace p57 := eq_true p57
                            replace q57 := eq_true q57
                            have HP58 := Kd.R_putg HO_17.out (x121_3 : Int) (((rd x17_3 x121_3) + 1) % 256)
                            go_wp2_with (first | ((with_reducible refine gate_store (t := 5) (p := 129) rfl ?_); refine store_event (t := 5) (p := 129) (v := ?vo_w59) (w1 := (wr.setCell ⟨go57, (x121_3 : Int).toNat, none⟩ (.int .u8 (((rd x17_3 x121_3) + 1) % 256)))) ?hg ?ho ?hn ?hr ?_; (case ho => rfl); (case hg => rfl); (case hn => rfl); (case hr => first | (go_simp; done) | (go_simp; rfl)); intro w59 hw; have hg : wr.grownBy w59 (some go57) := (by rw [hw]; exact HP58.2); have hp_ : Kd.R (Kd.int .u8) 5 w59 w.heap.size (fun k_ => some k_ ≠ (.slice Ao15 y249.length co15 : Value).ownBlock) (.slice (some ⟨go57, 0, none⟩) x17_3.length co53) y273 := (by rw [hw, Ny273.out]; exact HP58.1); clear HP58; have n0_ := Aside0.mk (Kd.R_after (v := (.slice (some ⟨go57, 0, none⟩) x17_3.length co53)) (v1 := (.slice (some ⟨go57, 0, none⟩) x17_3.length co53)) (ok := (fun _ => True)) (by (with_reducible repeat (first | apply Kd.R_alloc | apply Kd.R_drewN | apply Kd.R_drew)); exact Kd.R_mono HO_7.out (fun _ hk => ⟨trivial, hk⟩)) hg (.inl rfl)); have n1_ := Aside0.mk (hp_); have n2_ := Aside0.mk ((by rw [hw]; exact below_set (HB.out) GB57.out : Below w.heap.size w w59)); clear HO_7; clear HO_17; clear HB; have HO_7 := n0_; have HO_17 := n1_; have HB := n2_; clear n0_ n1_ n2_; clear hg hw hp_))
                            (try simp only [← hl17_3])
                            go_roundg k3
                            case measure => have := HJ10.out; have := HJ25.out; have := HK3.out; omega
                            case rel => exact ⟨(y273), (wrap64 (x121_3 + 1)), (by first | rfl | (simp; done) | (simp [*]; done)), H', ⟨by have := HJ10.out; have := HJ25.out; have := HK3.out; omega⟩, ⟨by (try simp only [hl17_3]); (with_reducible repeat (first | apply Kd.R_alloc | apply Kd.R_drewN | apply Kd.R_drew)); exact Kd.R_mono HO_7.out (fun _ hk => hk.2)⟩, ⟨by (try simp only [hl17_3]); (with_reducible repeat (first | apply Kd.R_alloc | apply Kd.R_drewN | apply Kd.R_drew)); exact HO_17.out⟩, ⟨by repeat (first | (with_reducible first | exact HB.out | apply below_alloc | apply pw_below_drewN | apply below_drew1) | exact HB.out | exact Below.refl _ _)⟩⟩
                          · rw [if_neg c56] at H
                            exact absurd H (by simp)
                        · rw [if_neg c55] at H
                          exact absurd H (by simp)
                      · rw [if_neg c54] at H
                        have c54b0 : decide (x121_3 < (t262.length : Int)) = false := decide_eq_false c54
                        (try (have c54b0l := c54b0; simp only [hl17_3] at c54b0l))
                        clear c54
                        by_cases c60 : (strOfNums y249).toList = (strOfNums l0).toList
                        · rw [if_pos c60] at H
                          have c60b0 : ((strOfNums y249).toList == (strOfNums l0).toList) = true := beq_iff_eq.mpr c60
                          have c60b1 : ((strOfNums y249).toList != (strOfNums l0).toList) = false := bne_eq_false_iff_eq.mpr c60
                          clear c60
                          replace H := Option.bind_eq_some_iff.mp H
                          obtain ⟨t274, A610, H⟩ := H
                          replace H : (some t274) = some r := H
                          have A61 := Aside0.mk A610
                          clear A610
                          obtain rfl := Option.some.inj H
                          have hcvq62 := fun n_ : Nat => own_string (P := Try.prog) Try.underlying22 Try.underlying5 Try.underlying9 (Kd.own_of_R (Kd.R_drewN HO_7.out n_))
                          have hcv63 := own_string (P := Try.prog) Try.underlying22 Try.underlying5 Try.underlying9 (Kd.own_of_R HO_7.out)
                          have hcvq64 := fun n_ : Nat => Kd.C_string (P := Try.prog) (A := A0) (c := c0) Try.underlying22 Try.underlying5 Try.underlying9 (Kd.C_drewN (Kd.C_below HR0.out HB.out) n_)
                          have hcv65 := Kd.C_string (P := Try.prog) (A := A0) (c := c0) Try.underlying22 Try.underlying5 Try.underlying9 (Kd.C_below HR0.out HB.out)
                          go_wp2_with (first | (go_at_call 9; (with_reducible refine (rubriclaw02_known.calls  t274 _ A61.out).mono ?_); rintro e w66 ⟨rfl, hb⟩; have n0_ := Aside0.mk (Kd.R_below (by (with_reducible repeat (first | apply Kd.R_alloc | apply Kd.R_drewN | apply Kd.R_drew)); exact HO_7.out) hb); have n1_ := Aside0.mk (Kd.R_below (by (with_reducible repeat (first | apply Kd.R_alloc | apply Kd.R_drewN | apply Kd.R_drew)); exact HO_17.out) hb); have n2_ := Aside0.mk (below_step (by repeat (first | (with_reducible first | exact HB.out | apply below_alloc | apply pw_below_drewN | apply below_drew1) | exact HB.out | exact Below.refl _ _)) hb); clear HO_7; clear HO_17; clear HB; have HO_7 := n0_; have HO_17 := n1_; have HB := n2_; clear n0_ n1_ n2_; (try clear hb); (try clear hb2); (try clear hk); (try clear hi)))
                          go_ret
                          exact ⟨by first | rfl | (simp [errW_none, errW_some] <;> rfl) | (simp [*, errW_none, errW_some] <;> rfl), by repeat (first | (with_reducible first | exact HB.out | apply below_alloc | apply pw_below_drewN | apply below_drew1) | exact HB.out | exact Below.refl _ _)⟩
                        · rw [if_neg c60] at H
                          have c60b0 : ((strOfNums y249).toList == (strOfNums l0).toList) = false := beq_eq_false_iff_ne.mpr c60
                          have c60b1 : ((strOfNums y249).toList != (strOfNums l0).toList) = true := bne_iff_ne.mpr c60
                          obtain rfl := Option.some.inj H
                          have hcvq67 := fun n_ : Nat => own_string (P := Try.prog) Try.underlying22 Try.underlying5 Try.underlying9 (Kd.own_of_R (Kd.R_drewN HO_7.out n_))
                          have hcv68 := own_string (P := Try.prog) Try.underlying22 Try.underlying5 Try.underlying9 (Kd.own_of_R HO_7.out)
                          have hcvq69 := fun n_ : Nat => Kd.C_string (P := Try.prog) (A := A0) (c := c0) Try.underlying22 Try.underlying5 Try.underlying9 (Kd.C_drewN (Kd.C_below HR0.out HB.out) n_)
                          have hcv70 := Kd.C_string (P := Try.prog) (A := A0) (c := c0) Try.underlying22 Try.underlying5 Try.underlying9 (Kd.C_below HR0.out HB.out)
                          go_wp2
                          go_ret
                          exact ⟨by first | rfl | (simp [errW_none, errW_some] <;> rfl) | (simp [*, errW_none, errW_some] <;> rfl), by repeat (first | (with_reducible first | exact HB.out | apply below_alloc | apply pw_below_drewN | apply below_drew1) | exact HB.out | exact Below.refl _ _)⟩
    · rw [if_neg c7] at H
      exact absurd H (by simp)

/-- THE ONE PURE STATEMENT of rubriclaw02_WireReads: yours. -/
def rubriclaw02_WireReads.Pure : Prop := ∀ (l0 : List Int) (a1 : Int) (a2 : Int), l0.length ≤ maxLen → l0.length * 1 ≤ 140737488351232 → (∀ x ∈ l0, (Lit.int .u8 x).wf = true) → (Lit.int .i64 a1).wf = true → (Lit.int .i64 a2).wf = true → ∃ k, rubriclaw02_WireReads.f k l0 a1 a2 = some true
theorem rubriclaw02_WireReads.walk (P : rubriclaw02_WireReads.Pure) (a0 : Option Addr) (len0 cap0 : Nat) (z0 : List Int) (a1 : Int) (a2 : Int) (w : World) (w0 : (a0 = none ∧ len0 = 0 ∧ cap0 = 0 ∧ z0 = []) ∨ ∃ x, a0 = some x ∧ len0 ≤ cap0 ∧ cap0 ≤ maxLen ∧ z0.length = cap0 ∧ (∀ i, i < z0.length → w.cell? (x.add i) = some (.int .u8 (z0.getD i 0))) ∧ ∀ n ∈ z0, (Lit.int .u8 n).wf = true) (y0 : len0 * 1 ≤ 140737488351232) (w1 : (Lit.int .i64 a1).wf = true) (w2 : (Lit.int .i64 a2).wf = true) :
    Calls Try.prog 7 #[.slice a0 len0 cap0, .int .i64 a1, .int .i64 a2] w fun e w' => e = .returned (.bool true) ∧ Below w.heap.size w w' := by
  obtain ⟨l0, rfl, hr0, hm0, hw0, hc0⟩ := ReadsInt.ofRowC w0
  obtain ⟨k, h⟩ := P l0 a1 a2 hm0 y0 hw0 w1 w2
  refine (rubriclaw02_WireReads.calls k _ _ l0 a1 a2 true w (Kd.C_of_reads (d := (0 : Int)) (h1 := fun _ => rfl) hr0) hc0 h).mono ?_
  rintro e w' ⟨rfl, hd⟩
  exact ⟨rfl, hd⟩

/-! ### rubricref02_Whole: function 15 -/
def rubricref02_Whole.f (a0 : Int) : Option (Int) := if a0 ≥ 0 then (some (IntKind.u64.wrap (2 * (IntKind.u64.wrap (a0))))) else (some (IntKind.u64.wrap ((IntKind.u64.wrap (2 * (IntKind.u64.wrap (wrap64 (-(wrap64 (a0 + 1))))))) + 1)))
set_option maxHeartbeats 8000000 in
set_option maxRecDepth 100000 in
theorem rubricref02_Whole.calls (a0 : Int) (r : Int) (w : World) (h : rubricref02_Whole.f a0 = some r) :
    Calls Try.prog 15 #[.int .i64 a0] w fun e w' => e = .returned (.int .u64 r) ∧ Drawn0 w w' := by
  have H : (if a0 ≥ 0 then (some (IntKind.u64.wrap (2 * (IntKind.u64.wrap (a0))))) else (some (IntKind.u64.wrap ((IntKind.u64.wrap (2 * (IntKind.u64.wrap (wrap64 (-(wrap64 (a0 + 1))))))) + 1)))) = some r := h
  clear h
  by_cases c2 : a0 ≥ 0
  · rw [if_pos c2] at H
    have c2b0 : decide (0 ≤ a0) = true := decide_eq_true c2
    clear c2
    obtain rfl := Option.some.inj H
    go_enter Try.func15, Try.ntmps15
    go_wp2
    go_ret
    exact ⟨by first | rfl | (simp; done) | (simp [*]; done), by repeat (first | exact Drawn0.refl _ | apply Drawn0.step)⟩
  · rw [if_neg c2] at H
    have c2b0 : decide (0 ≤ a0) = false := decide_eq_false c2
    clear c2
    obtain rfl := Option.some.inj H
    go_enter Try.func15, Try.ntmps15
    go_wp2
    go_ret
    exact ⟨by first | rfl | (simp; done) | (simp [*]; done), by repeat (first | exact Drawn0.refl _ | apply Drawn0.step)⟩

/-! ### rubriclaw02_own: function 16 -/
def rubriclaw02_own.f (l0 : List Int) (l1 : List Int) : Option (Bool) := some true


end Go.Proofs.Ytbmelglpcdidcaa.P
