-- several texts in one: Ret Concat CopyO OpsM OfW OfN
import Derived.LoopN
import Derived.Test.YtmjeoknamoegpaaZ4
namespace Go.Proofs.Ytmjeoknamoegpaa.P
open Go.RowKit Go.Proofs.YtmjeoknamoegpaaW.PrintWords Go.Proofs.YtmjeoknamoegpaaW.PrintLast Go.Proofs.YtmjeoknamoegpaaW.PrintMore
set_option linter.unusedVariables false
set_option linter.unusedSimpArgs false
theorem Kd.N_ok {α : Type} {d : Kd α} {e : Nat} {w : World} {base : Nat} {ok : Nat → Prop} {v : Value} {xs : List α} (h : Kd.N d e w base ok v xs) : ∀ k, v.ownBlock = some k → ok k := h.1
theorem gapP_len (I : List S30) (g : Int) : (gapP I g).length ≤ I.length + 1 := by
 unfold gapP
 split <;> simp
set_option maxHeartbeats 4000000 in
set_option maxRecDepth 100000 in
theorem retain_0 (p : Nat) (D I : List S30) (g : Int) (base : Nat) (ok : Nat → Prop) (n : Int) (Ap : Option Addr) (cp : Nat) (pt : List S42) (w : World) (hM : Mk w base ok p D I g) (hbase : base ≤ w.heap.size) (hC : ∀ w', Kept w w' ok → Below base w w' → Kd.C k42 w' Ap pt.length pt) (hcp : pt.length ≤ cp) (hn : 1 ≤ n) (hpl : pt.length ≤ 1000000) (hIl : I.length ≤ 1000000) (hDl : D.length ≤ 1000000) (D1 : List S30) (hD1 : D ++ gapP I g = D1) (hL1 : D1.length = 0) :
  Calls Try.prog 20 #[.pointer (some ⟨p, 0, none⟩), .int .i64 n, .slice Ap pt.length cp] w fun e w' => e = .returned (.tuple #[]) ∧ MkPost w base ok p (D1 ++ [(⟨1, n, [], [], pt⟩ : S30)]) [] 0 w' := by
 obtain ⟨vD, vI, okD, okI, h1, h2, h3, h4, h5, h6, h7⟩ := hM.bound
 have BK := Aside0.mk h1
 have HP := Aside0.mk (blk_lt h1)
 have HD := Aside0.mk h4
 have HI := Aside0.mk h5
 have H6 : Aside0 (∀ k, okD k → base ≤ k ∧ ok k ∧ k ≠ p ∧ k < w.heap.size) := Aside0.mk (fun k hk => ⟨(h6 k hk).1, (h6 k hk).2.1.1, (h6 k hk).2.2, (h6 k hk).2.1.2⟩)
 have H7 : Aside0 (∀ k, okI k → base ≤ k ∧ ok k ∧ k ≠ p ∧ ¬ okD k ∧ k < w.heap.size) := Aside0.mk (fun k hk => ⟨(h7 k hk).1, (h7 k hk).2.1.1, (h7 k hk).2.2.1, (h7 k hk).2.2.2, (h7 k hk).2.1.2⟩)
 have H3 := Aside0.mk h3.1
 have HK := Aside0.mk (Kept.refl w ok)
 have HB := Aside0.mk (Below.refl base w)
 have HZ := Aside0.mk (Nat.le_refl w.heap.size)
 obtain ⟨Ai, ci, hvI⟩ := Kd.S_slice h5
 subst hvI
 have c0 : w.cell? ⟨p, 0, none⟩ = some vD := (blk_cell h1 0).trans rfl
 have hn1 : decide (n < 1) = false := decide_eq_false (by omega)
 have HD1 := Aside0.mk hD1
 have HL1 := Aside0.mk hL1
 clear hD1 hL1
 have HC := Aside0.mk hC
 have HP_ := Aside0.mk (hC w (Kept.refl _ _) (Below.refl _ _))
 clear h1 h3 h4 h5 h6 h7 hM hC
 go_enter Try.func20, Try.ntmps20
 go_wp2_with fail
 refine start_ (n := 11) (S := fun w' => w'.cell? ⟨p, 0, none⟩ = some vD) (ds := [10]) #[false, false, false, false, false, false, false, false, false, false, false] (by kernel_rfl) rfl rfl ((blk_cell (w := w.drew) BK.out 0).trans rfl) (fun hHeld => ?_)
 have hb := below_drew (Below.refl w.heap.size w)
 generalize w.drew = w2 at hb hHeld ⊢
 replace BK := Aside0.mk (blk_below BK.out hb)
 replace HD := Aside0.mk (Kd.N_below HD.out hb)
 replace HB := Aside0.mk (below_then HB.out (Nat.le_trans hbase HZ.out) hb)
 replace HK := Aside0.mk (HK.out.below hb)
 replace HZ := Aside0.mk (Nat.le_trans HZ.out hb.size)
 replace HI := Aside0.mk (Kd.S_below HI.out hb)
 replace HP_ := Aside0.mk (Kd.C_below HP_.out hb)
 clear hb
 refine pure_ (i := 0) (N := some 13) (v := ?_) (a' := ?_) #[true, false, false, false, false, false, false, false, false, false, false] rfl rfl (any_of rfl (by kernel_rfl)) (fun _ _ _ h => h) (Or.inl ⟨by rfl, ?_⟩) ?_ ?_
 rotate_left
 ·intro w'
  go_simp
  with_reducible rfl
 rotate_left
 ·simp only [Act.put, List.setIfInBounds_toArray, List.set_cons_zero, List.set_cons_succ, i64_w, i32_w]
  rfl
 refine pure_ (i := 1) (N := some 14) (v := ?_) (a' := ?_) #[true, true, false, false, false, false, false, false, false, false, false] rfl rfl (any_of rfl (by kernel_rfl)) (fun _ _ _ h => h) (Or.inl ⟨by rfl, ?_⟩) ?_ ?_
 rotate_left
 ·intro w'
  go_simp
  with_reducible rfl
 rotate_left
 ·simp only [Act.put, List.setIfInBounds_toArray, List.set_cons_zero, List.set_cons_succ, i64_w, i32_w]
  rfl
 refine pure_ (i := 2) (N := some 15) (v := ?_) (a' := ?_) #[true, true, true, false, false, false, false, false, false, false, false] rfl rfl (any_of rfl (by kernel_rfl)) (fun _ _ _ h => h) (Or.inl ⟨by rfl, ?_⟩) ?_ ?_
 rotate_left
 ·intro w'
  go_simp
  with_reducible rfl
 rotate_left
 ·simp only [Act.put, List.setIfInBounds_toArray, List.set_cons_zero, List.set_cons_succ, i64_w, i32_w]
  rfl
 refine pure_ (i := 3) (N := some 16) (v := ?_) (a' := ?_) #[true, true, true, true, false, false, false, false, false, false, false] rfl rfl (any_of rfl (by kernel_rfl)) (fun _ _ _ h => h) (Or.inl ⟨by rfl, ?_⟩) ?_ ?_
 rotate_left
 ·intro w'
  go_simp
  with_reducible rfl
 rotate_left
 ·simp only [Act.put, List.setIfInBounds_toArray, List.set_cons_zero, List.set_cons_succ, i64_w, i32_w]
  rfl
 refine pure_ (i := 5) (N := some 18) (v := ?_) (a' := ?_) #[true, true, true, true, false, true, false, false, false, false, false] rfl rfl (any_of rfl (by kernel_rfl)) (fun _ _ _ h => h) (Or.inl ⟨by rfl, ?_⟩) ?_ ?_
 rotate_left
 ·intro w'
  go_simp
  with_reducible rfl
 rotate_left
 ·simp only [Act.put, List.setIfInBounds_toArray, List.set_cons_zero, List.set_cons_succ, i64_w, i32_w]
  rfl
 refine take_ (i := 4) (N := some 17) (v := ?_) (a' := ?_) #[true, true, true, true, true, true, false, false, false, false, false] rfl rfl (take_of rfl (by kernel_rfl)) (fun _ _ _ h => h) (Or.inl ⟨by rfl, ?_⟩) hHeld ?_ ?_
 rotate_left
 ·rintro w' s0
  go_simp
  with_reducible rfl
 rotate_left
 ·simp only [Act.put, List.setIfInBounds_toArray, List.set_cons_zero, List.set_cons_succ, i64_w, i32_w]
  rfl
 refine one_ (i := 6) (N := some 19) #[true, true, true, true, true, true, true, false, false, false, false] rfl rfl (one_of rfl (by kernel_rfl)) (by decide) (fun K hK => ?_)
 refine goes_ Try.func35 (by kernel_rfl) rfl #[.pointer (some ⟨p, 0, none⟩)] (by rfl) rfl rfl (by (try simp only [List.map_toArray, List.map_cons, List.map_nil]); first | done | rfl) ?_
 refine (gap_calls p Ai ci I g okI w2 ((blk_cell BK.out 1).trans rfl) ((blk_cell BK.out 2).trans rfl) (Kd.S_V HI.out) hIl).mono ?_
 rintro e w3 ⟨vg, rfl, hN, hb⟩
 have HN := Aside0.mk hN
 have HZ2 := Aside0.mk HZ.out
 replace BK := Aside0.mk (blk_below BK.out hb)
 replace HD := Aside0.mk (Kd.N_below HD.out hb)
 replace HB := Aside0.mk (below_then HB.out (Nat.le_trans hbase HZ.out) hb)
 replace HK := Aside0.mk (HK.out.below hb)
 replace HZ := Aside0.mk (Nat.le_trans HZ.out hb.size)
 replace HP_ := Aside0.mk (Kd.C_below HP_.out hb)
 clear hN hb HI
 obtain ⟨Ag, cg, rfl⟩ := Kd.N_slice HN.out
 refine ⟨_, rfl, ?_⟩
 refine hK.out _ _ ((blk_cell BK.out 0).trans rfl) (fun hHeld => ?_)
 clear hK K
 refine norm_ (a' := ?_) ?_ ?_
 rotate_left
 ·show Act.put _ (some 19) _ = _
  simp only [Act.put, List.setIfInBounds_toArray, List.set_cons_zero, List.set_cons_succ, i64_w, i32_w]
  rfl
 refine one_ (i := 7) (N := some 20) #[true, true, true, true, true, true, true, true, false, false, false] rfl rfl (one_of rfl (by kernel_rfl)) (by decide) (fun K hK => ?_)
 refine Kd.N_append_rows_step k30 (w0 := w) base (by rfl) (.tmp 17) (.tmp 19) 23 30 (.agg #[(.int .u8 0), (.int .i64 0), (.slice none 0 0), (.slice none 0 0), (.slice none 0 0)]) 88 rfl Try.underlying23 info30 rfl (by decide) (by omega) vD D (gapP I g) Ag (gapP I g).length cg (fun k => (okD k ∨ okI k) ∨ w.heap.size ≤ k) (fun k => okI k ∨ w2.heap.size ≤ k) rfl rfl (Kd.N_mono HD.out (fun k hk => .inl (.inl hk))) (Kd.N_F HN.out) ?aQ (fun k hk => .inr (Nat.le_trans HZ.out hk)) HB.out (Nat.le_trans hbase HZ.out) (by have := gapP_len I g; omega) ?_
 (case aQ => exact fun k hk => hk.elim (fun h_ => ⟨.inl (.inr h_), fun e_ => (H7.out k h_).2.2.2.1 (Kd.N_ok HD.out k e_.symm)⟩) (fun h_ => ⟨.inr (Nat.le_trans HZ2.out h_), fun e_ => by have := (H6.out k (Kd.N_ok HD.out k e_.symm)).2.2.2; have := HZ2.out; omega⟩))
 intro v1 w4 ho hb hg hat
 rw [HD1.out] at ho
 replace BK := Aside0.mk (blk_grown BK.out hg (fun e_ => (H6.out p (Kd.N_ok HD.out p e_.symm)).2.2.1 rfl))
 replace HK := Aside0.mk (Kept.of_grown hg HK.out (fun k e_ => .inl (H6.out k (Kd.N_ok HD.out k e_)).2.1))
 have hz4 := hg.size
 have HV := Aside0.mk (HC.out w4 HK.out hb)
 obtain ⟨A1, c1, rfl⟩ := Kd.N_slice ho
 rw [HL1.out] at ho ⊢
 replace HD := Aside0.mk ho
 replace HB := Aside0.mk hb
 clear ho hb hg hat HN
 refine hK.out _ _ ((blk_cell BK.out 0).trans rfl) (fun hHeld => ?_)
 clear hK K
 refine norm_ (a' := ?_) ?_ ?_
 rotate_left
 ·show Act.put _ (some 20) _ = _
  simp only [Act.put, List.setIfInBounds_toArray, List.set_cons_zero, List.set_cons_succ, i64_w, i32_w]
  rfl
 refine pure_ (i := 8) (N := some 21) (v := ?_) (a' := ?_) #[true, true, true, true, true, true, true, true, true, false, false] rfl rfl (any_of rfl (by kernel_rfl)) (fun _ _ _ h => h) (Or.inl ⟨by rfl, ?_⟩) ?_ ?_
 rotate_left
 ·intro w'
  go_simp
  with_reducible rfl
 rotate_left
 ·simp only [Act.put, List.setIfInBounds_toArray, List.set_cons_zero, List.set_cons_succ, i64_w, i32_w]
  rfl
 refine pure_ (i := 9) (N := some 22) (v := ?_) (a' := ?_) #[true, true, true, true, true, true, true, true, true, true, false] rfl rfl (any_of rfl (by kernel_rfl)) (fun _ _ _ h => h) (Or.inl ⟨by rfl, ?_⟩) ?_ ?_
 rotate_left
 ·intro w'
  go_simp
  with_reducible rfl
 rotate_left
 ·simp only [Act.put, List.setIfInBounds_toArray, List.set_cons_zero, List.set_cons_succ, i64_w, i32_w]
  rfl
 refine last_ (i := 10) (N := none) #[true, true, true, true, true, true, true, true, true, true, true] rfl rfl (one_of rfl (by kernel_rfl)) (by decide) (fun K hK => ?_)
 have e0 : w4.cell? ⟨p, 0, none⟩ = some vD := (blk_cell BK.out 0).trans rfl
 have f0 := blk_frozen BK.out 0
 refine skip_ (w1 := w4.setCell ⟨p, 0, none⟩ (.slice A1 0 c1)) (by rfl) rfl ?_ ?_
 ·go_simp
  try rfl
 refine hK.out _ _ ?_
 clear hK K
 refine done_ (done_of rfl (by kernel_rfl)) ?_
 clear c0 hHeld
 have BK5 := Aside0.mk (blk_put BK.out 0 (.slice A1 0 c1) rfl)
 have hkp : ∀ k, ((okD k ∨ okI k) ∨ w.heap.size ≤ k) → k ≠ p := fun k hk e_ => hk.elim (fun h_ => h_.elim (fun h2_ => (H6.out k h2_).2.2.1 e_) (fun h2_ => (H7.out k h2_).2.2.1 e_)) (fun h_ => by have := HP.out; omega)
 have HD5 := Aside0.mk (Kd.N_far HD.out (p := ⟨p, 0, none⟩) hkp (.slice A1 0 c1))
 have HK5 := Aside0.mk (HK.out.setCell (p := ⟨p, 0, none⟩) (.inl H3.out) (.slice A1 0 c1))
 have HB5 := Aside0.mk (HB.out.setCell (p := ⟨p, 0, none⟩) h2 (.slice A1 0 c1))
 have HKP := Aside0.mk hkp
 clear BK HD HK HB
 generalize w4.setCell ⟨p, 0, none⟩ (.slice A1 0 c1) = w5 at BK5 HD5 HK5 HB5 ⊢
 have e1 : w5.cell? ⟨p, 1, none⟩ = some (.slice Ai I.length ci) := (blk_cell BK5.out 1).trans rfl
 have e2 : w5.cell? ⟨p, 2, none⟩ = some (.int .i64 g) := (blk_cell BK5.out 2).trans rfl
 have f1 := blk_frozen BK5.out 1
 have f2 := blk_frozen BK5.out 2
 clear hkp
 go_upto_region 3 with (fail)
 have BK6 := Aside0.mk (blk_put (blk_put BK5.out 1 (.slice none 0 0) rfl) 2 (.int .i64 0) rfl)
 have HD6 := Aside0.mk (Kd.N_far (Kd.N_far HD5.out (p := ⟨p, 1, none⟩) HKP.out (.slice none 0 0)) (p := ⟨p, 2, none⟩) HKP.out (.int .i64 0))
 have HK6 := Aside0.mk ((HK5.out.setCell (p := ⟨p, 1, none⟩) (.inl H3.out) (.slice none 0 0)).setCell (p := ⟨p, 2, none⟩) (.inl H3.out) (.int .i64 0))
 have HB6 := Aside0.mk ((HB5.out.setCell (p := ⟨p, 1, none⟩) h2 (.slice none 0 0)).setCell (p := ⟨p, 2, none⟩) h2 (.int .i64 0))
 clear BK5 HD5 HK5 HB5 e1 e2 f1 f2
 generalize (w5.setCell ⟨p, 1, none⟩ (.slice none 0 0)).setCell ⟨p, 2, none⟩ (.int .i64 0) = w6 at BK6 HD6 HK6 HB6 ⊢
 have cp0 : w6.cell? ⟨p, 0, none⟩ = some (.slice A1 0 c1) := (blk_cell BK6.out 0).trans rfl
 go_wp2_with fail
 clear cp0
 refine start_ (n := 14) (S := fun w' => w'.cell? ⟨p, 0, none⟩ = some (.slice A1 0 c1)) (ds := [13]) #[false, false, false, false, false, false, false, false, false, false, false, false, false, false] (by kernel_rfl) rfl rfl ((blk_cell (w := w6.drew) BK6.out 0).trans rfl) (fun hHeld => ?_)
 have hb := below_drew (Below.refl w6.heap.size w6)
 generalize w6.drew = w8 at hb hHeld ⊢
 replace BK6 := Aside0.mk (blk_below BK6.out hb)
 replace HD6 := Aside0.mk (Kd.N_below HD6.out hb)
 replace HB6 := Aside0.mk (below_then HB6.out (Nat.le_trans hbase HK6.out.1) hb)
 replace HK6 := Aside0.mk (HK6.out.below hb)
 clear hb
 have HPt := Aside0.mk (HC.out w8 HK6.out HB6.out)
 refine pure_ (i := 0) (N := some 72) (v := ?_) (a' := ?_) #[true, false, false, false, false, false, false, false, false, false, false, false, false, false] rfl rfl (any_of rfl (by kernel_rfl)) (fun _ _ _ h => h) (Or.inl ⟨by rfl, ?_⟩) ?_ ?_
 rotate_left
 ·intro w'
  go_simp
  with_reducible rfl
 rotate_left
 ·simp only [Act.put, List.setIfInBounds_toArray, List.set_cons_zero, List.set_cons_succ, i64_w, i32_w]
  rfl
 refine pure_ (i := 1) (N := some 73) (v := ?_) (a' := ?_) #[true, true, false, false, false, false, false, false, false, false, false, false, false, false] rfl rfl (any_of rfl (by kernel_rfl)) (fun _ _ _ h => h) (Or.inl ⟨by rfl, ?_⟩) ?_ ?_
 rotate_left
 ·intro w'
  go_simp
  with_reducible rfl
 rotate_left
 ·simp only [Act.put, List.setIfInBounds_toArray, List.set_cons_zero, List.set_cons_succ, i64_w, i32_w]
  rfl
 refine pure_ (i := 2) (N := some 74) (v := ?_) (a' := ?_) #[true, true, true, false, false, false, false, false, false, false, false, false, false, false] rfl rfl (any_of rfl (by kernel_rfl)) (fun _ _ _ h => h) (Or.inl ⟨by rfl, ?_⟩) ?_ ?_
 rotate_left
 ·intro w'
  go_simp
  with_reducible rfl
 rotate_left
 ·simp only [Act.put, List.setIfInBounds_toArray, List.set_cons_zero, List.set_cons_succ, i64_w, i32_w]
  rfl
 refine pure_ (i := 3) (N := some 75) (v := ?_) (a' := ?_) #[true, true, true, true, false, false, false, false, false, false, false, false, false, false] rfl rfl (any_of rfl (by kernel_rfl)) (fun _ _ _ h => h) (Or.inl ⟨by rfl, ?_⟩) ?_ ?_
 rotate_left
 ·intro w'
  go_simp
  with_reducible rfl
 rotate_left
 ·simp only [Act.put, List.setIfInBounds_toArray, List.set_cons_zero, List.set_cons_succ, i64_w, i32_w]
  rfl
 refine pure_ (i := 5) (N := some 77) (v := ?_) (a' := ?_) #[true, true, true, true, false, true, false, false, false, false, false, false, false, false] rfl rfl (any_of rfl (by kernel_rfl)) (fun _ _ _ h => h) (Or.inl ⟨by rfl, ?_⟩) ?_ ?_
 rotate_left
 ·intro w'
  go_simp
  with_reducible rfl
 rotate_left
 ·simp only [Act.put, List.setIfInBounds_toArray, List.set_cons_zero, List.set_cons_succ, i64_w, i32_w]
  rfl
 refine pure_ (i := 6) (N := some 78) (v := ?_) (a' := ?_) #[true, true, true, true, false, true, true, false, false, false, false, false, false, false] rfl rfl (any_of rfl (by kernel_rfl)) (fun _ _ _ h => h) (Or.inl ⟨by rfl, ?_⟩) ?_ ?_
 rotate_left
 ·intro w'
  go_simp
  with_reducible rfl
 rotate_left
 ·simp only [Act.put, List.setIfInBounds_toArray, List.set_cons_zero, List.set_cons_succ, i64_w, i32_w]
  rfl
 refine take_ (i := 4) (N := some 76) (v := ?_) (a' := ?_) #[true, true, true, true, true, true, true, false, false, false, false, false, false, false] rfl rfl (take_of rfl (by kernel_rfl)) (fun _ _ _ h => h) (Or.inl ⟨by rfl, ?_⟩) hHeld ?_ ?_
 rotate_left
 ·rintro w' s0
  go_simp
  with_reducible rfl
 rotate_left
 ·simp only [Act.put, List.setIfInBounds_toArray, List.set_cons_zero, List.set_cons_succ, i64_w, i32_w]
  rfl
 refine one_ (i := 7) (N := some 79) #[true, true, true, true, true, true, true, true, false, false, false, false, false, false] rfl rfl (one_of rfl (by kernel_rfl)) (by decide) (fun K hK => ?_)
 refine goes_ Try.func36 (by kernel_rfl) rfl #[.slice Ap pt.length cp] (by rfl) rfl rfl (by (try simp only [List.map_toArray, List.map_cons, List.map_nil]); first | done | rfl) ?_
 refine (patch_Copy.calls Ap cp pt pt w8 HPt.out hcp (copyC_eq pt hpl)).mono ?_
 rintro e w9 ⟨vp, rfl, hv, hb⟩
 obtain ⟨A4_, c4_, rfl⟩ := Kd.R_slice hv
 have VP := Aside0.mk (Kd.R_bound hv)
 have HW := Aside0.mk (fun k (e_ : Value.ownBlock (.slice A1 0 c1) = some k) => Kd.N_lt HD6.out k e_)
 have HZ8 := Aside0.mk HK6.out.1
 replace BK6 := Aside0.mk (blk_below BK6.out hb)
 replace HD6 := Aside0.mk (Kd.N_below HD6.out hb)
 replace HB6 := Aside0.mk (below_then HB6.out (Nat.le_trans hbase HK6.out.1) hb)
 replace HK6 := Aside0.mk (HK6.out.below hb)
 clear hv hb HPt
 refine ⟨_, rfl, ?_⟩
 refine hK.out _ _ ((blk_cell BK6.out 0).trans rfl) (fun hHeld => ?_)
 clear hK K
 refine norm_ (a' := ?_) ?_ ?_
 rotate_left
 ·show Act.put _ (some 79) _ = _
  simp only [Act.put, List.setIfInBounds_toArray, List.set_cons_zero, List.set_cons_succ, i64_w, i32_w]
  rfl
 refine pure_ (i := 8) (N := some 80) (v := ?_) (a' := ?_) #[true, true, true, true, true, true, true, true, true, false, false, false, false, false] rfl rfl (any_of rfl (by kernel_rfl)) (fun _ _ _ h => h) (Or.inl ⟨by rfl, ?_⟩) ?_ ?_
 rotate_left
 ·intro w'
  go_simp
  with_reducible rfl
 rotate_left
 ·simp only [Act.put, List.setIfInBounds_toArray, List.set_cons_zero, List.set_cons_succ, i64_w, i32_w]
  rfl
 refine one_ (i := 9) (N := some 81) #[true, true, true, true, true, true, true, true, true, true, false, false, false, false] rfl rfl (one_of rfl (by kernel_rfl)) (by decide) (fun K hK => ?_)
 refine value_ (w1 := ?_) (v := ?_) (by rfl) rfl ?_ ?_
 rotate_left 2
 ·go_simp
  constructor
  ·rfl
  ·rfl
 refine hK.out _ _ ((blk_cell (blk_alloc BK6.out _) 0).trans rfl) (fun hHeld => ?_)
 clear hK K
 refine norm_ (a' := ?_) ?_ ?_
 rotate_left
 ·show Act.put _ (some 81) _ = _
  simp only [Act.put, List.setIfInBounds_toArray, List.set_cons_zero, List.set_cons_succ, i64_w, i32_w]
  rfl
 refine one_ (i := 10) (N := some 82) #[true, true, true, true, true, true, true, true, true, true, true, false, false, false] rfl rfl (one_of rfl (by kernel_rfl)) (by decide) (fun K hK => ?_)
 refine Kd.N_append_step k30 (w0 := w) base (by rfl) (.tmp 76) (.tmp 81) 23 30 (.agg #[(.int .u8 0), (.int .i64 0), (.slice none 0 0), (.slice none 0 0), (.slice none 0 0)]) 88 rfl Try.underlying23 info30 rfl (by decide) (by omega) (.slice A1 0 c1) D1 (⟨1, n, [], [], pt⟩ : S30) [.int .u8 1, .int .i64 n, .slice none 0 0, .slice none 0 0, .slice A4_ pt.length c4_] (fun k => (okD k ∨ okI k) ∨ w.heap.size ≤ k) (fun k => w8.heap.size ≤ k) rfl rfl ?aP ?aQ (fun k hk => .inr (Nat.le_trans HK6.out.1 hk)) HD6.out HB6.out (Nat.le_trans hbase HK6.out.1) (by have := HL1.out; omega) ?_
 (case aP => exact k30_mkF _ _ (⟨1, n, [], [], pt⟩ : S30) (by simp) (Kd.F_nil _ _ _) (by simp) (Kd.F_nil _ _ _) (Kd.R_reads' VP.out).2.1 (Kd.F_mono (Kd.R_F VP.out) (fun k hk => hk.2.1)))
 (case aQ => exact fun k hk => ⟨.inr (Nat.le_trans HZ8.out hk), fun e_ => by have := HW.out k e_.symm; omega⟩)
 intro v5 w10 ho hb hg hat
 obtain ⟨A5, c5, rfl⟩ := Kd.N_slice ho
 replace BK6 := Aside0.mk (blk_grown BK6.out hg (fun e_ => HKP.out p (Kd.N_ok HD6.out p e_.symm) rfl))
 replace HK6 := Aside0.mk (Kept.of_grown hg HK6.out (fun k e_ => (Kd.N_ok HD6.out k e_).elim (fun h_ => .inl (h_.elim (fun h2_ => (H6.out k h2_).2.1) (fun h2_ => (H7.out k h2_).2.1))) .inr))
 replace HD6 := Aside0.mk ho
 replace HB6 := Aside0.mk hb
 clear ho hb hg hat
 refine hK.out _ _ ((blk_cell BK6.out 0).trans rfl) (fun hHeld => ?_)
 clear hK K
 refine norm_ (a' := ?_) ?_ ?_
 rotate_left
 ·show Act.put _ (some 82) _ = _
  simp only [Act.put, List.setIfInBounds_toArray, List.set_cons_zero, List.set_cons_succ, i64_w, i32_w]
  rfl
 refine pure_ (i := 11) (N := some 83) (v := ?_) (a' := ?_) #[true, true, true, true, true, true, true, true, true, true, true, true, false, false] rfl rfl (any_of rfl (by kernel_rfl)) (fun _ _ _ h => h) (Or.inl ⟨by rfl, ?_⟩) ?_ ?_
 rotate_left
 ·intro w'
  go_simp
  with_reducible rfl
 rotate_left
 ·simp only [Act.put, List.setIfInBounds_toArray, List.set_cons_zero, List.set_cons_succ, i64_w, i32_w]
  rfl
 refine pure_ (i := 12) (N := some 84) (v := ?_) (a' := ?_) #[true, true, true, true, true, true, true, true, true, true, true, true, true, false] rfl rfl (any_of rfl (by kernel_rfl)) (fun _ _ _ h => h) (Or.inl ⟨by rfl, ?_⟩) ?_ ?_
 rotate_left
 ·intro w'
  go_simp
  with_reducible rfl
 rotate_left
 ·simp only [Act.put, List.setIfInBounds_toArray, List.set_cons_zero, List.set_cons_succ, i64_w, i32_w]
  rfl
 refine last_ (i := 13) (N := none) #[true, true, true, true, true, true, true, true, true, true, true, true, true, true] rfl rfl (one_of rfl (by kernel_rfl)) (by decide) (fun K hK => ?_)
 have e0 : w10.cell? ⟨p, 0, none⟩ = some (.slice A1 0 c1) := (blk_cell BK6.out 0).trans rfl
 have f0 := blk_frozen BK6.out 0
 refine skip_ (w1 := w10.setCell ⟨p, 0, none⟩ (.slice A5 (D1 ++ [(⟨1, n, [], [], pt⟩ : S30)]).length c5)) (by rfl) rfl ?_ ?_
 ·go_simp
  try rfl
 refine hK.out _ _ ?_
 clear hK K
 refine done_ (done_of rfl (by kernel_rfl)) ?_
 go_wp2
 go_end0
 refine ⟨rfl, ⟨_, _, _, fun _ => False, blk_put BK6.out 0 _ rfl, h2, .inl H3.out, Kd.N_far HD6.out (p := ⟨p, 0, none⟩) HKP.out _, Kd.S_nil _ _ _ _ _, ?_, fun k hk => hk.elim⟩, HK6.out.setCell (p := ⟨p, 0, none⟩) (.inl H3.out) _, HB6.out.setCell (p := ⟨p, 0, none⟩) h2 _⟩
 exact fun k hk => ⟨hk.elim (fun h_ => h_.elim (fun h2_ => (H6.out k h2_).1) (fun h2_ => (H7.out k h2_).1)) (fun h_ => Nat.le_trans hbase h_), hk.elim (fun h_ => .inl (h_.elim (fun h2_ => (H6.out k h2_).2.1) (fun h2_ => (H7.out k h2_).2.1))) .inr, HKP.out k hk⟩
set_option maxHeartbeats 4000000 in
set_option maxRecDepth 100000 in
theorem retain_1 (p : Nat) (D I : List S30) (g : Int) (base : Nat) (ok : Nat → Prop) (n : Int) (Ap : Option Addr) (cp : Nat) (pt : List S42) (w : World) (hM : Mk w base ok p D I g) (hbase : base ≤ w.heap.size) (hC : ∀ w', Kept w w' ok → Below base w w' → Kd.C k42 w' Ap pt.length pt) (hcp : pt.length ≤ cp) (hn : 1 ≤ n) (hpl : pt.length ≤ 1000000) (hIl : I.length ≤ 1000000) (hDl : D.length ≤ 1000000) (D1 : List S30) (hD1 : D ++ gapP I g = D1) (m : Nat) (o : S30) (hL1 : D1.length = m + 1) (hm1 : m + 1 ≤ 3000000) (ho : D1[m]? = some o) (hk : o.f0 ≠ 1) :
  Calls Try.prog 20 #[.pointer (some ⟨p, 0, none⟩), .int .i64 n, .slice Ap pt.length cp] w fun e w' => e = .returned (.tuple #[]) ∧ MkPost w base ok p (D1 ++ [(⟨1, n, [], [], pt⟩ : S30)]) [] 0 w' := by
 obtain ⟨vD, vI, okD, okI, h1, h2, h3, h4, h5, h6, h7⟩ := hM.bound
 have BK := Aside0.mk h1
 have HP := Aside0.mk (blk_lt h1)
 have HD := Aside0.mk h4
 have HI := Aside0.mk h5
 have H6 : Aside0 (∀ k, okD k → base ≤ k ∧ ok k ∧ k ≠ p ∧ k < w.heap.size) := Aside0.mk (fun k hk => ⟨(h6 k hk).1, (h6 k hk).2.1.1, (h6 k hk).2.2, (h6 k hk).2.1.2⟩)
 have H7 : Aside0 (∀ k, okI k → base ≤ k ∧ ok k ∧ k ≠ p ∧ ¬ okD k ∧ k < w.heap.size) := Aside0.mk (fun k hk => ⟨(h7 k hk).1, (h7 k hk).2.1.1, (h7 k hk).2.2.1, (h7 k hk).2.2.2, (h7 k hk).2.1.2⟩)
 have H3 := Aside0.mk h3.1
 have HK := Aside0.mk (Kept.refl w ok)
 have HB := Aside0.mk (Below.refl base w)
 have HZ := Aside0.mk (Nat.le_refl w.heap.size)
 obtain ⟨Ai, ci, hvI⟩ := Kd.S_slice h5
 subst hvI
 have c0 : w.cell? ⟨p, 0, none⟩ = some vD := (blk_cell h1 0).trans rfl
 have hn1 : decide (n < 1) = false := decide_eq_false (by omega)
 have HD1 := Aside0.mk hD1
 have HL1 := Aside0.mk hL1
 clear hD1 hL1
 have HC := Aside0.mk hC
 have HP_ := Aside0.mk (hC w (Kept.refl _ _) (Below.refl _ _))
 clear h1 h3 h4 h5 h6 h7 hM hC
 go_enter Try.func20, Try.ntmps20
 go_wp2_with fail
 refine start_ (n := 11) (S := fun w' => w'.cell? ⟨p, 0, none⟩ = some vD) (ds := [10]) #[false, false, false, false, false, false, false, false, false, false, false] (by kernel_rfl) rfl rfl ((blk_cell (w := w.drew) BK.out 0).trans rfl) (fun hHeld => ?_)
 have hb := below_drew (Below.refl w.heap.size w)
 generalize w.drew = w2 at hb hHeld ⊢
 replace BK := Aside0.mk (blk_below BK.out hb)
 replace HD := Aside0.mk (Kd.N_below HD.out hb)
 replace HB := Aside0.mk (below_then HB.out (Nat.le_trans hbase HZ.out) hb)
 replace HK := Aside0.mk (HK.out.below hb)
 replace HZ := Aside0.mk (Nat.le_trans HZ.out hb.size)
 replace HI := Aside0.mk (Kd.S_below HI.out hb)
 replace HP_ := Aside0.mk (Kd.C_below HP_.out hb)
 clear hb
 refine pure_ (i := 0) (N := some 13) (v := ?_) (a' := ?_) #[true, false, false, false, false, false, false, false, false, false, false] rfl rfl (any_of rfl (by kernel_rfl)) (fun _ _ _ h => h) (Or.inl ⟨by rfl, ?_⟩) ?_ ?_
 rotate_left
 ·intro w'
  go_simp
  with_reducible rfl
 rotate_left
 ·simp only [Act.put, List.setIfInBounds_toArray, List.set_cons_zero, List.set_cons_succ, i64_w, i32_w]
  rfl
 refine pure_ (i := 1) (N := some 14) (v := ?_) (a' := ?_) #[true, true, false, false, false, false, false, false, false, false, false] rfl rfl (any_of rfl (by kernel_rfl)) (fun _ _ _ h => h) (Or.inl ⟨by rfl, ?_⟩) ?_ ?_
 rotate_left
 ·intro w'
  go_simp
  with_reducible rfl
 rotate_left
 ·simp only [Act.put, List.setIfInBounds_toArray, List.set_cons_zero, List.set_cons_succ, i64_w, i32_w]
  rfl
 refine pure_ (i := 2) (N := some 15) (v := ?_) (a' := ?_) #[true, true, true, false, false, false, false, false, false, false, false] rfl rfl (any_of rfl (by kernel_rfl)) (fun _ _ _ h => h) (Or.inl ⟨by rfl, ?_⟩) ?_ ?_
 rotate_left
 ·intro w'
  go_simp
  with_reducible rfl
 rotate_left
 ·simp only [Act.put, List.setIfInBounds_toArray, List.set_cons_zero, List.set_cons_succ, i64_w, i32_w]
  rfl
 refine pure_ (i := 3) (N := some 16) (v := ?_) (a' := ?_) #[true, true, true, true, false, false, false, false, false, false, false] rfl rfl (any_of rfl (by kernel_rfl)) (fun _ _ _ h => h) (Or.inl ⟨by rfl, ?_⟩) ?_ ?_
 rotate_left
 ·intro w'
  go_simp
  with_reducible rfl
 rotate_left
 ·simp only [Act.put, List.setIfInBounds_toArray, List.set_cons_zero, List.set_cons_succ, i64_w, i32_w]
  rfl
 refine pure_ (i := 5) (N := some 18) (v := ?_) (a' := ?_) #[true, true, true, true, false, true, false, false, false, false, false] rfl rfl (any_of rfl (by kernel_rfl)) (fun _ _ _ h => h) (Or.inl ⟨by rfl, ?_⟩) ?_ ?_
 rotate_left
 ·intro w'
  go_simp
  with_reducible rfl
 rotate_left
 ·simp only [Act.put, List.setIfInBounds_toArray, List.set_cons_zero, List.set_cons_succ, i64_w, i32_w]
  rfl
 refine take_ (i := 4) (N := some 17) (v := ?_) (a' := ?_) #[true, true, true, true, true, true, false, false, false, false, false] rfl rfl (take_of rfl (by kernel_rfl)) (fun _ _ _ h => h) (Or.inl ⟨by rfl, ?_⟩) hHeld ?_ ?_
 rotate_left
 ·rintro w' s0
  go_simp
  with_reducible rfl
 rotate_left
 ·simp only [Act.put, List.setIfInBounds_toArray, List.set_cons_zero, List.set_cons_succ, i64_w, i32_w]
  rfl
 refine one_ (i := 6) (N := some 19) #[true, true, true, true, true, true, true, false, false, false, false] rfl rfl (one_of rfl (by kernel_rfl)) (by decide) (fun K hK => ?_)
 refine goes_ Try.func35 (by kernel_rfl) rfl #[.pointer (some ⟨p, 0, none⟩)] (by rfl) rfl rfl (by (try simp only [List.map_toArray, List.map_cons, List.map_nil]); first | done | rfl) ?_
 refine (gap_calls p Ai ci I g okI w2 ((blk_cell BK.out 1).trans rfl) ((blk_cell BK.out 2).trans rfl) (Kd.S_V HI.out) hIl).mono ?_
 rintro e w3 ⟨vg, rfl, hN, hb⟩
 have HN := Aside0.mk hN
 have HZ2 := Aside0.mk HZ.out
 replace BK := Aside0.mk (blk_below BK.out hb)
 replace HD := Aside0.mk (Kd.N_below HD.out hb)
 replace HB := Aside0.mk (below_then HB.out (Nat.le_trans hbase HZ.out) hb)
 replace HK := Aside0.mk (HK.out.below hb)
 replace HZ := Aside0.mk (Nat.le_trans HZ.out hb.size)
 replace HP_ := Aside0.mk (Kd.C_below HP_.out hb)
 clear hN hb HI
 obtain ⟨Ag, cg, rfl⟩ := Kd.N_slice HN.out
 refine ⟨_, rfl, ?_⟩
 refine hK.out _ _ ((blk_cell BK.out 0).trans rfl) (fun hHeld => ?_)
 clear hK K
 refine norm_ (a' := ?_) ?_ ?_
 rotate_left
 ·show Act.put _ (some 19) _ = _
  simp only [Act.put, List.setIfInBounds_toArray, List.set_cons_zero, List.set_cons_succ, i64_w, i32_w]
  rfl
 refine one_ (i := 7) (N := some 20) #[true, true, true, true, true, true, true, true, false, false, false] rfl rfl (one_of rfl (by kernel_rfl)) (by decide) (fun K hK => ?_)
 refine Kd.N_append_rows_step k30 (w0 := w) base (by rfl) (.tmp 17) (.tmp 19) 23 30 (.agg #[(.int .u8 0), (.int .i64 0), (.slice none 0 0), (.slice none 0 0), (.slice none 0 0)]) 88 rfl Try.underlying23 info30 rfl (by decide) (by omega) vD D (gapP I g) Ag (gapP I g).length cg (fun k => (okD k ∨ okI k) ∨ w.heap.size ≤ k) (fun k => okI k ∨ w2.heap.size ≤ k) rfl rfl (Kd.N_mono HD.out (fun k hk => .inl (.inl hk))) (Kd.N_F HN.out) ?aQ (fun k hk => .inr (Nat.le_trans HZ.out hk)) HB.out (Nat.le_trans hbase HZ.out) (by have := gapP_len I g; omega) ?_
 (case aQ => exact fun k hk => hk.elim (fun h_ => ⟨.inl (.inr h_), fun e_ => (H7.out k h_).2.2.2.1 (Kd.N_ok HD.out k e_.symm)⟩) (fun h_ => ⟨.inr (Nat.le_trans HZ2.out h_), fun e_ => by have := (H6.out k (Kd.N_ok HD.out k e_.symm)).2.2.2; have := HZ2.out; omega⟩))
 intro v1 w4 ho hb hg hat
 rw [HD1.out] at ho
 replace BK := Aside0.mk (blk_grown BK.out hg (fun e_ => (H6.out p (Kd.N_ok HD.out p e_.symm)).2.2.1 rfl))
 replace HK := Aside0.mk (Kept.of_grown hg HK.out (fun k e_ => .inl (H6.out k (Kd.N_ok HD.out k e_)).2.1))
 have hz4 := hg.size
 have HV := Aside0.mk (HC.out w4 HK.out hb)
 obtain ⟨A1, c1, rfl⟩ := Kd.N_slice ho
 rw [HL1.out] at ho ⊢
 replace HD := Aside0.mk ho
 replace HB := Aside0.mk hb
 clear ho hb hg hat HN
 refine hK.out _ _ ((blk_cell BK.out 0).trans rfl) (fun hHeld => ?_)
 clear hK K
 refine norm_ (a' := ?_) ?_ ?_
 rotate_left
 ·show Act.put _ (some 20) _ = _
  simp only [Act.put, List.setIfInBounds_toArray, List.set_cons_zero, List.set_cons_succ, i64_w, i32_w]
  rfl
 refine pure_ (i := 8) (N := some 21) (v := ?_) (a' := ?_) #[true, true, true, true, true, true, true, true, true, false, false] rfl rfl (any_of rfl (by kernel_rfl)) (fun _ _ _ h => h) (Or.inl ⟨by rfl, ?_⟩) ?_ ?_
 rotate_left
 ·intro w'
  go_simp
  with_reducible rfl
 rotate_left
 ·simp only [Act.put, List.setIfInBounds_toArray, List.set_cons_zero, List.set_cons_succ, i64_w, i32_w]
  rfl
 refine pure_ (i := 9) (N := some 22) (v := ?_) (a' := ?_) #[true, true, true, true, true, true, true, true, true, true, false] rfl rfl (any_of rfl (by kernel_rfl)) (fun _ _ _ h => h) (Or.inl ⟨by rfl, ?_⟩) ?_ ?_
 rotate_left
 ·intro w'
  go_simp
  with_reducible rfl
 rotate_left
 ·simp only [Act.put, List.setIfInBounds_toArray, List.set_cons_zero, List.set_cons_succ, i64_w, i32_w]
  rfl
 refine last_ (i := 10) (N := none) #[true, true, true, true, true, true, true, true, true, true, true] rfl rfl (one_of rfl (by kernel_rfl)) (by decide) (fun K hK => ?_)
 have e0 : w4.cell? ⟨p, 0, none⟩ = some vD := (blk_cell BK.out 0).trans rfl
 have f0 := blk_frozen BK.out 0
 refine skip_ (w1 := w4.setCell ⟨p, 0, none⟩ (.slice A1 (m + 1) c1)) (by rfl) rfl ?_ ?_
 ·go_simp
  try rfl
 refine hK.out _ _ ?_
 clear hK K
 refine done_ (done_of rfl (by kernel_rfl)) ?_
 clear c0 hHeld
 have BK5 := Aside0.mk (blk_put BK.out 0 (.slice A1 (m + 1) c1) rfl)
 have hkp : ∀ k, ((okD k ∨ okI k) ∨ w.heap.size ≤ k) → k ≠ p := fun k hk e_ => hk.elim (fun h_ => h_.elim (fun h2_ => (H6.out k h2_).2.2.1 e_) (fun h2_ => (H7.out k h2_).2.2.1 e_)) (fun h_ => by have := HP.out; omega)
 have HD5 := Aside0.mk (Kd.N_far HD.out (p := ⟨p, 0, none⟩) hkp (.slice A1 (m + 1) c1))
 have HK5 := Aside0.mk (HK.out.setCell (p := ⟨p, 0, none⟩) (.inl H3.out) (.slice A1 (m + 1) c1))
 have HB5 := Aside0.mk (HB.out.setCell (p := ⟨p, 0, none⟩) h2 (.slice A1 (m + 1) c1))
 have HKP := Aside0.mk hkp
 clear BK HD HK HB
 generalize w4.setCell ⟨p, 0, none⟩ (.slice A1 (m + 1) c1) = w5 at BK5 HD5 HK5 HB5 ⊢
 have e1 : w5.cell? ⟨p, 1, none⟩ = some (.slice Ai I.length ci) := (blk_cell BK5.out 1).trans rfl
 have e2 : w5.cell? ⟨p, 2, none⟩ = some (.int .i64 g) := (blk_cell BK5.out 2).trans rfl
 have f1 := blk_frozen BK5.out 1
 have f2 := blk_frozen BK5.out 2
 clear hkp
 go_upto_region 3 with (fail)
 have BK6 := Aside0.mk (blk_put (blk_put BK5.out 1 (.slice none 0 0) rfl) 2 (.int .i64 0) rfl)
 have HD6 := Aside0.mk (Kd.N_far (Kd.N_far HD5.out (p := ⟨p, 1, none⟩) HKP.out (.slice none 0 0)) (p := ⟨p, 2, none⟩) HKP.out (.int .i64 0))
 have HK6 := Aside0.mk ((HK5.out.setCell (p := ⟨p, 1, none⟩) (.inl H3.out) (.slice none 0 0)).setCell (p := ⟨p, 2, none⟩) (.inl H3.out) (.int .i64 0))
 have HB6 := Aside0.mk ((HB5.out.setCell (p := ⟨p, 1, none⟩) h2 (.slice none 0 0)).setCell (p := ⟨p, 2, none⟩) h2 (.int .i64 0))
 clear BK5 HD5 HK5 HB5 e1 e2 f1 f2
 generalize (w5.setCell ⟨p, 1, none⟩ (.slice none 0 0)).setCell ⟨p, 2, none⟩ (.int .i64 0) = w6 at BK6 HD6 HK6 HB6 ⊢
 obtain ⟨gD, capD, hvD, _, hgl, cellsD, hcD⟩ := Kd.N_form HD6.out (by have := HL1.out; omega)
 injection hvD with hA1 hlen_ hc1
 clear hlen_
 subst hA1
 subst hc1
 obtain ⟨ce, _, hFK, hcc, hfr⟩ := Kd.N_elem HD6.out z30 (m : Int) (by omega) (by omega)
 have hgetD : D1.getD (m : Int).toNat z30 = o := by rw [Int.toNat_natCast, List.getD_eq_getElem?_getD, ho]; rfl
 rw [hgetD] at hFK
 obtain ⟨A2, c2, A3, c3, A4, c4, rfl, _, _, _, _, hl4, hF4⟩ := k30_openF hFK
 have e0 : w6.cell? ⟨gD, m * 5, none⟩ = some (.int .u8 o.f0) := hcc 0 _ rfl
 have e1 : w6.cell? ⟨gD, m * 5 + 1, none⟩ = some (.int .i64 o.f1) := hcc 1 _ rfl
 have e4 : w6.cell? ⟨gD, m * 5 + 4, none⟩ = some (.slice A4 o.f4.length c4) := hcc 4 _ rfl
 have cp0 : w6.cell? ⟨p, 0, none⟩ = some (.slice (some ⟨gD, 0, none⟩) (m + 1) c1) := (blk_cell BK6.out 0).trans rfl
 have E1 := Aside0.mk e1
 have HF4 := Aside0.mk (Kd.F_now hF4)
 have HL4 := Aside0.mk hl4
 have HO_ := Aside0.mk ho
 have HKD := Aside0.mk hcD
 clear hFK hcc hfr hgetD hF4 hl4 hcD ho
 have hkb : (o.f0 == 1) = false := beq_eq_false_iff_ne.2 hk
 go_wp2_with fail
 clear cp0 e0 e1 e4
 refine start_ (n := 14) (S := fun w' => w'.cell? ⟨p, 0, none⟩ = some (.slice (some ⟨gD, 0, none⟩) (m + 1) c1)) (ds := [13]) #[false, false, false, false, false, false, false, false, false, false, false, false, false, false] (by kernel_rfl) rfl rfl ((blk_cell (w := w6.drew) BK6.out 0).trans rfl) (fun hHeld => ?_)
 have hb := below_drew (Below.refl w6.heap.size w6)
 generalize w6.drew = w8 at hb hHeld ⊢
 replace BK6 := Aside0.mk (blk_below BK6.out hb)
 replace HD6 := Aside0.mk (Kd.N_below HD6.out hb)
 replace HB6 := Aside0.mk (below_then HB6.out (Nat.le_trans hbase HK6.out.1) hb)
 replace HK6 := Aside0.mk (HK6.out.below hb)
 clear hb
 have HPt := Aside0.mk (HC.out w8 HK6.out HB6.out)
 refine pure_ (i := 0) (N := some 72) (v := ?_) (a' := ?_) #[true, false, false, false, false, false, false, false, false, false, false, false, false, false] rfl rfl (any_of rfl (by kernel_rfl)) (fun _ _ _ h => h) (Or.inl ⟨by rfl, ?_⟩) ?_ ?_
 rotate_left
 ·intro w'
  go_simp
  with_reducible rfl
 rotate_left
 ·simp only [Act.put, List.setIfInBounds_toArray, List.set_cons_zero, List.set_cons_succ, i64_w, i32_w]
  rfl
 refine pure_ (i := 1) (N := some 73) (v := ?_) (a' := ?_) #[true, true, false, false, false, false, false, false, false, false, false, false, false, false] rfl rfl (any_of rfl (by kernel_rfl)) (fun _ _ _ h => h) (Or.inl ⟨by rfl, ?_⟩) ?_ ?_
 rotate_left
 ·intro w'
  go_simp
  with_reducible rfl
 rotate_left
 ·simp only [Act.put, List.setIfInBounds_toArray, List.set_cons_zero, List.set_cons_succ, i64_w, i32_w]
  rfl
 refine pure_ (i := 2) (N := some 74) (v := ?_) (a' := ?_) #[true, true, true, false, false, false, false, false, false, false, false, false, false, false] rfl rfl (any_of rfl (by kernel_rfl)) (fun _ _ _ h => h) (Or.inl ⟨by rfl, ?_⟩) ?_ ?_
 rotate_left
 ·intro w'
  go_simp
  with_reducible rfl
 rotate_left
 ·simp only [Act.put, List.setIfInBounds_toArray, List.set_cons_zero, List.set_cons_succ, i64_w, i32_w]
  rfl
 refine pure_ (i := 3) (N := some 75) (v := ?_) (a' := ?_) #[true, true, true, true, false, false, false, false, false, false, false, false, false, false] rfl rfl (any_of rfl (by kernel_rfl)) (fun _ _ _ h => h) (Or.inl ⟨by rfl, ?_⟩) ?_ ?_
 rotate_left
 ·intro w'
  go_simp
  with_reducible rfl
 rotate_left
 ·simp only [Act.put, List.setIfInBounds_toArray, List.set_cons_zero, List.set_cons_succ, i64_w, i32_w]
  rfl
 refine pure_ (i := 5) (N := some 77) (v := ?_) (a' := ?_) #[true, true, true, true, false, true, false, false, false, false, false, false, false, false] rfl rfl (any_of rfl (by kernel_rfl)) (fun _ _ _ h => h) (Or.inl ⟨by rfl, ?_⟩) ?_ ?_
 rotate_left
 ·intro w'
  go_simp
  with_reducible rfl
 rotate_left
 ·simp only [Act.put, List.setIfInBounds_toArray, List.set_cons_zero, List.set_cons_succ, i64_w, i32_w]
  rfl
 refine pure_ (i := 6) (N := some 78) (v := ?_) (a' := ?_) #[true, true, true, true, false, true, true, false, false, false, false, false, false, false] rfl rfl (any_of rfl (by kernel_rfl)) (fun _ _ _ h => h) (Or.inl ⟨by rfl, ?_⟩) ?_ ?_
 rotate_left
 ·intro w'
  go_simp
  with_reducible rfl
 rotate_left
 ·simp only [Act.put, List.setIfInBounds_toArray, List.set_cons_zero, List.set_cons_succ, i64_w, i32_w]
  rfl
 refine take_ (i := 4) (N := some 76) (v := ?_) (a' := ?_) #[true, true, true, true, true, true, true, false, false, false, false, false, false, false] rfl rfl (take_of rfl (by kernel_rfl)) (fun _ _ _ h => h) (Or.inl ⟨by rfl, ?_⟩) hHeld ?_ ?_
 rotate_left
 ·rintro w' s0
  go_simp
  with_reducible rfl
 rotate_left
 ·simp only [Act.put, List.setIfInBounds_toArray, List.set_cons_zero, List.set_cons_succ, i64_w, i32_w]
  rfl
 refine one_ (i := 7) (N := some 79) #[true, true, true, true, true, true, true, true, false, false, false, false, false, false] rfl rfl (one_of rfl (by kernel_rfl)) (by decide) (fun K hK => ?_)
 refine goes_ Try.func36 (by kernel_rfl) rfl #[.slice Ap pt.length cp] (by rfl) rfl rfl (by (try simp only [List.map_toArray, List.map_cons, List.map_nil]); first | done | rfl) ?_
 refine (patch_Copy.calls Ap cp pt pt w8 HPt.out hcp (copyC_eq pt hpl)).mono ?_
 rintro e w9 ⟨vp, rfl, hv, hb⟩
 obtain ⟨A4_, c4_, rfl⟩ := Kd.R_slice hv
 have VP := Aside0.mk (Kd.R_bound hv)
 have HW := Aside0.mk (fun k (e_ : Value.ownBlock (.slice (some ⟨gD, 0, none⟩) (m + 1) c1) = some k) => Kd.N_lt HD6.out k e_)
 have HZ8 := Aside0.mk HK6.out.1
 replace BK6 := Aside0.mk (blk_below BK6.out hb)
 replace HD6 := Aside0.mk (Kd.N_below HD6.out hb)
 replace HB6 := Aside0.mk (below_then HB6.out (Nat.le_trans hbase HK6.out.1) hb)
 replace HK6 := Aside0.mk (HK6.out.below hb)
 clear hv hb HPt
 refine ⟨_, rfl, ?_⟩
 refine hK.out _ _ ((blk_cell BK6.out 0).trans rfl) (fun hHeld => ?_)
 clear hK K
 refine norm_ (a' := ?_) ?_ ?_
 rotate_left
 ·show Act.put _ (some 79) _ = _
  simp only [Act.put, List.setIfInBounds_toArray, List.set_cons_zero, List.set_cons_succ, i64_w, i32_w]
  rfl
 refine pure_ (i := 8) (N := some 80) (v := ?_) (a' := ?_) #[true, true, true, true, true, true, true, true, true, false, false, false, false, false] rfl rfl (any_of rfl (by kernel_rfl)) (fun _ _ _ h => h) (Or.inl ⟨by rfl, ?_⟩) ?_ ?_
 rotate_left
 ·intro w'
  go_simp
  with_reducible rfl
 rotate_left
 ·simp only [Act.put, List.setIfInBounds_toArray, List.set_cons_zero, List.set_cons_succ, i64_w, i32_w]
  rfl
 refine one_ (i := 9) (N := some 81) #[true, true, true, true, true, true, true, true, true, true, false, false, false, false] rfl rfl (one_of rfl (by kernel_rfl)) (by decide) (fun K hK => ?_)
 refine value_ (w1 := ?_) (v := ?_) (by rfl) rfl ?_ ?_
 rotate_left 2
 ·go_simp
  constructor
  ·rfl
  ·rfl
 refine hK.out _ _ ((blk_cell (blk_alloc BK6.out _) 0).trans rfl) (fun hHeld => ?_)
 clear hK K
 refine norm_ (a' := ?_) ?_ ?_
 rotate_left
 ·show Act.put _ (some 81) _ = _
  simp only [Act.put, List.setIfInBounds_toArray, List.set_cons_zero, List.set_cons_succ, i64_w, i32_w]
  rfl
 refine one_ (i := 10) (N := some 82) #[true, true, true, true, true, true, true, true, true, true, true, false, false, false] rfl rfl (one_of rfl (by kernel_rfl)) (by decide) (fun K hK => ?_)
 refine Kd.N_append_step k30 (w0 := w) base (by rfl) (.tmp 76) (.tmp 81) 23 30 (.agg #[(.int .u8 0), (.int .i64 0), (.slice none 0 0), (.slice none 0 0), (.slice none 0 0)]) 88 rfl Try.underlying23 info30 rfl (by decide) (by omega) (.slice (some ⟨gD, 0, none⟩) (m + 1) c1) D1 (⟨1, n, [], [], pt⟩ : S30) [.int .u8 1, .int .i64 n, .slice none 0 0, .slice none 0 0, .slice A4_ pt.length c4_] (fun k => (okD k ∨ okI k) ∨ w.heap.size ≤ k) (fun k => w8.heap.size ≤ k) rfl rfl ?aP ?aQ (fun k hk => .inr (Nat.le_trans HK6.out.1 hk)) HD6.out HB6.out (Nat.le_trans hbase HK6.out.1) (by have := HL1.out; omega) ?_
 (case aP => exact k30_mkF _ _ (⟨1, n, [], [], pt⟩ : S30) (by simp) (Kd.F_nil _ _ _) (by simp) (Kd.F_nil _ _ _) (Kd.R_reads' VP.out).2.1 (Kd.F_mono (Kd.R_F VP.out) (fun k hk => hk.2.1)))
 (case aQ => exact fun k hk => ⟨.inr (Nat.le_trans HZ8.out hk), fun e_ => by have := HW.out k e_.symm; omega⟩)
 intro v5 w10 ho hb hg hat
 obtain ⟨A5, c5, rfl⟩ := Kd.N_slice ho
 replace BK6 := Aside0.mk (blk_grown BK6.out hg (fun e_ => HKP.out p (Kd.N_ok HD6.out p e_.symm) rfl))
 replace HK6 := Aside0.mk (Kept.of_grown hg HK6.out (fun k e_ => (Kd.N_ok HD6.out k e_).elim (fun h_ => .inl (h_.elim (fun h2_ => (H6.out k h2_).2.1) (fun h2_ => (H7.out k h2_).2.1))) .inr))
 replace HD6 := Aside0.mk ho
 replace HB6 := Aside0.mk hb
 clear ho hb hg hat
 refine hK.out _ _ ((blk_cell BK6.out 0).trans rfl) (fun hHeld => ?_)
 clear hK K
 refine norm_ (a' := ?_) ?_ ?_
 rotate_left
 ·show Act.put _ (some 82) _ = _
  simp only [Act.put, List.setIfInBounds_toArray, List.set_cons_zero, List.set_cons_succ, i64_w, i32_w]
  rfl
 refine pure_ (i := 11) (N := some 83) (v := ?_) (a' := ?_) #[true, true, true, true, true, true, true, true, true, true, true, true, false, false] rfl rfl (any_of rfl (by kernel_rfl)) (fun _ _ _ h => h) (Or.inl ⟨by rfl, ?_⟩) ?_ ?_
 rotate_left
 ·intro w'
  go_simp
  with_reducible rfl
 rotate_left
 ·simp only [Act.put, List.setIfInBounds_toArray, List.set_cons_zero, List.set_cons_succ, i64_w, i32_w]
  rfl
 refine pure_ (i := 12) (N := some 84) (v := ?_) (a' := ?_) #[true, true, true, true, true, true, true, true, true, true, true, true, true, false] rfl rfl (any_of rfl (by kernel_rfl)) (fun _ _ _ h => h) (Or.inl ⟨by rfl, ?_⟩) ?_ ?_
 rotate_left
 ·intro w'
  go_simp
  with_reducible rfl
 rotate_left
 ·simp only [Act.put, List.setIfInBounds_toArray, List.set_cons_zero, List.set_cons_succ, i64_w, i32_w]
  rfl
 refine last_ (i := 13) (N := none) #[true, true, true, true, true, true, true, true, true, true, true, true, true, true] rfl rfl (one_of rfl (by kernel_rfl)) (by decide) (fun K hK => ?_)
 have e0 : w10.cell? ⟨p, 0, none⟩ = some (.slice (some ⟨gD, 0, none⟩) (m + 1) c1) := (blk_cell BK6.out 0).trans rfl
 have f0 := blk_frozen BK6.out 0
 refine skip_ (w1 := w10.setCell ⟨p, 0, none⟩ (.slice A5 (D1 ++ [(⟨1, n, [], [], pt⟩ : S30)]).length c5)) (by rfl) rfl ?_ ?_
 ·go_simp
  try rfl
 refine hK.out _ _ ?_
 clear hK K
 refine done_ (done_of rfl (by kernel_rfl)) ?_
 go_wp2
 go_end0
 refine ⟨rfl, ⟨_, _, _, fun _ => False, blk_put BK6.out 0 _ rfl, h2, .inl H3.out, Kd.N_far HD6.out (p := ⟨p, 0, none⟩) HKP.out _, Kd.S_nil _ _ _ _ _, ?_, fun k hk => hk.elim⟩, HK6.out.setCell (p := ⟨p, 0, none⟩) (.inl H3.out) _, HB6.out.setCell (p := ⟨p, 0, none⟩) h2 _⟩
 exact fun k hk => ⟨hk.elim (fun h_ => h_.elim (fun h2_ => (H6.out k h2_).1) (fun h2_ => (H7.out k h2_).1)) (fun h_ => Nat.le_trans hbase h_), hk.elim (fun h_ => .inl (h_.elim (fun h2_ => (H6.out k h2_).2.1) (fun h2_ => (H7.out k h2_).2.1))) .inr, HKP.out k hk⟩
set_option maxHeartbeats 4000000 in
set_option maxRecDepth 100000 in
theorem retain_2 (p : Nat) (D I : List S30) (g : Int) (base : Nat) (ok : Nat → Prop) (n : Int) (Ap : Option Addr) (cp : Nat) (pt : List S42) (w : World) (hM : Mk w base ok p D I g) (hbase : base ≤ w.heap.size) (hC : ∀ w', Kept w w' ok → Below base w w' → Kd.C k42 w' Ap pt.length pt) (hcp : pt.length ≤ cp) (hn : 1 ≤ n) (hpl : pt.length ≤ 1000000) (hIl : I.length ≤ 1000000) (hDl : D.length ≤ 1000000) (D1 : List S30) (hD1 : D ++ gapP I g = D1) (m : Nat) (o : S30) (hL1 : D1.length = m + 1) (hm1 : m + 1 ≤ 3000000) (ho : D1[m]? = some o) (hk : o.f0 = 1) (hq : keyC o.f4 ≠ keyC pt) :
  Calls Try.prog 20 #[.pointer (some ⟨p, 0, none⟩), .int .i64 n, .slice Ap pt.length cp] w fun e w' => e = .returned (.tuple #[]) ∧ MkPost w base ok p (D1 ++ [(⟨1, n, [], [], pt⟩ : S30)]) [] 0 w' := by
 obtain ⟨vD, vI, okD, okI, h1, h2, h3, h4, h5, h6, h7⟩ := hM.bound
 have BK := Aside0.mk h1
 have HP := Aside0.mk (blk_lt h1)
 have HD := Aside0.mk h4
 have HI := Aside0.mk h5
 have H6 : Aside0 (∀ k, okD k → base ≤ k ∧ ok k ∧ k ≠ p ∧ k < w.heap.size) := Aside0.mk (fun k hk => ⟨(h6 k hk).1, (h6 k hk).2.1.1, (h6 k hk).2.2, (h6 k hk).2.1.2⟩)
 have H7 : Aside0 (∀ k, okI k → base ≤ k ∧ ok k ∧ k ≠ p ∧ ¬ okD k ∧ k < w.heap.size) := Aside0.mk (fun k hk => ⟨(h7 k hk).1, (h7 k hk).2.1.1, (h7 k hk).2.2.1, (h7 k hk).2.2.2, (h7 k hk).2.1.2⟩)
 have H3 := Aside0.mk h3.1
 have HK := Aside0.mk (Kept.refl w ok)
 have HB := Aside0.mk (Below.refl base w)
 have HZ := Aside0.mk (Nat.le_refl w.heap.size)
 obtain ⟨Ai, ci, hvI⟩ := Kd.S_slice h5
 subst hvI
 have c0 : w.cell? ⟨p, 0, none⟩ = some vD := (blk_cell h1 0).trans rfl
 have hn1 : decide (n < 1) = false := decide_eq_false (by omega)
 have HD1 := Aside0.mk hD1
 have HL1 := Aside0.mk hL1
 clear hD1 hL1
 have HC := Aside0.mk hC
 have HP_ := Aside0.mk (hC w (Kept.refl _ _) (Below.refl _ _))
 clear h1 h3 h4 h5 h6 h7 hM hC
 go_enter Try.func20, Try.ntmps20
 go_wp2_with fail
 refine start_ (n := 11) (S := fun w' => w'.cell? ⟨p, 0, none⟩ = some vD) (ds := [10]) #[false, false, false, false, false, false, false, false, false, false, false] (by kernel_rfl) rfl rfl ((blk_cell (w := w.drew) BK.out 0).trans rfl) (fun hHeld => ?_)
 have hb := below_drew (Below.refl w.heap.size w)
 generalize w.drew = w2 at hb hHeld ⊢
 replace BK := Aside0.mk (blk_below BK.out hb)
 replace HD := Aside0.mk (Kd.N_below HD.out hb)
 replace HB := Aside0.mk (below_then HB.out (Nat.le_trans hbase HZ.out) hb)
 replace HK := Aside0.mk (HK.out.below hb)
 replace HZ := Aside0.mk (Nat.le_trans HZ.out hb.size)
 replace HI := Aside0.mk (Kd.S_below HI.out hb)
 replace HP_ := Aside0.mk (Kd.C_below HP_.out hb)
 clear hb
 refine pure_ (i := 0) (N := some 13) (v := ?_) (a' := ?_) #[true, false, false, false, false, false, false, false, false, false, false] rfl rfl (any_of rfl (by kernel_rfl)) (fun _ _ _ h => h) (Or.inl ⟨by rfl, ?_⟩) ?_ ?_
 rotate_left
 ·intro w'
  go_simp
  with_reducible rfl
 rotate_left
 ·simp only [Act.put, List.setIfInBounds_toArray, List.set_cons_zero, List.set_cons_succ, i64_w, i32_w]
  rfl
 refine pure_ (i := 1) (N := some 14) (v := ?_) (a' := ?_) #[true, true, false, false, false, false, false, false, false, false, false] rfl rfl (any_of rfl (by kernel_rfl)) (fun _ _ _ h => h) (Or.inl ⟨by rfl, ?_⟩) ?_ ?_
 rotate_left
 ·intro w'
  go_simp
  with_reducible rfl
 rotate_left
 ·simp only [Act.put, List.setIfInBounds_toArray, List.set_cons_zero, List.set_cons_succ, i64_w, i32_w]
  rfl
 refine pure_ (i := 2) (N := some 15) (v := ?_) (a' := ?_) #[true, true, true, false, false, false, false, false, false, false, false] rfl rfl (any_of rfl (by kernel_rfl)) (fun _ _ _ h => h) (Or.inl ⟨by rfl, ?_⟩) ?_ ?_
 rotate_left
 ·intro w'
  go_simp
  with_reducible rfl
 rotate_left
 ·simp only [Act.put, List.setIfInBounds_toArray, List.set_cons_zero, List.set_cons_succ, i64_w, i32_w]
  rfl
 refine pure_ (i := 3) (N := some 16) (v := ?_) (a' := ?_) #[true, true, true, true, false, false, false, false, false, false, false] rfl rfl (any_of rfl (by kernel_rfl)) (fun _ _ _ h => h) (Or.inl ⟨by rfl, ?_⟩) ?_ ?_
 rotate_left
 ·intro w'
  go_simp
  with_reducible rfl
 rotate_left
 ·simp only [Act.put, List.setIfInBounds_toArray, List.set_cons_zero, List.set_cons_succ, i64_w, i32_w]
  rfl
 refine pure_ (i := 5) (N := some 18) (v := ?_) (a' := ?_) #[true, true, true, true, false, true, false, false, false, false, false] rfl rfl (any_of rfl (by kernel_rfl)) (fun _ _ _ h => h) (Or.inl ⟨by rfl, ?_⟩) ?_ ?_
 rotate_left
 ·intro w'
  go_simp
  with_reducible rfl
 rotate_left
 ·simp only [Act.put, List.setIfInBounds_toArray, List.set_cons_zero, List.set_cons_succ, i64_w, i32_w]
  rfl
 refine take_ (i := 4) (N := some 17) (v := ?_) (a' := ?_) #[true, true, true, true, true, true, false, false, false, false, false] rfl rfl (take_of rfl (by kernel_rfl)) (fun _ _ _ h => h) (Or.inl ⟨by rfl, ?_⟩) hHeld ?_ ?_
 rotate_left
 ·rintro w' s0
  go_simp
  with_reducible rfl
 rotate_left
 ·simp only [Act.put, List.setIfInBounds_toArray, List.set_cons_zero, List.set_cons_succ, i64_w, i32_w]
  rfl
 refine one_ (i := 6) (N := some 19) #[true, true, true, true, true, true, true, false, false, false, false] rfl rfl (one_of rfl (by kernel_rfl)) (by decide) (fun K hK => ?_)
 refine goes_ Try.func35 (by kernel_rfl) rfl #[.pointer (some ⟨p, 0, none⟩)] (by rfl) rfl rfl (by (try simp only [List.map_toArray, List.map_cons, List.map_nil]); first | done | rfl) ?_
 refine (gap_calls p Ai ci I g okI w2 ((blk_cell BK.out 1).trans rfl) ((blk_cell BK.out 2).trans rfl) (Kd.S_V HI.out) hIl).mono ?_
 rintro e w3 ⟨vg, rfl, hN, hb⟩
 have HN := Aside0.mk hN
 have HZ2 := Aside0.mk HZ.out
 replace BK := Aside0.mk (blk_below BK.out hb)
 replace HD := Aside0.mk (Kd.N_below HD.out hb)
 replace HB := Aside0.mk (below_then HB.out (Nat.le_trans hbase HZ.out) hb)
 replace HK := Aside0.mk (HK.out.below hb)
 replace HZ := Aside0.mk (Nat.le_trans HZ.out hb.size)
 replace HP_ := Aside0.mk (Kd.C_below HP_.out hb)
 clear hN hb HI
 obtain ⟨Ag, cg, rfl⟩ := Kd.N_slice HN.out
 refine ⟨_, rfl, ?_⟩
 refine hK.out _ _ ((blk_cell BK.out 0).trans rfl) (fun hHeld => ?_)
 clear hK K
 refine norm_ (a' := ?_) ?_ ?_
 rotate_left
 ·show Act.put _ (some 19) _ = _
  simp only [Act.put, List.setIfInBounds_toArray, List.set_cons_zero, List.set_cons_succ, i64_w, i32_w]
  rfl
 refine one_ (i := 7) (N := some 20) #[true, true, true, true, true, true, true, true, false, false, false] rfl rfl (one_of rfl (by kernel_rfl)) (by decide) (fun K hK => ?_)
 refine Kd.N_append_rows_step k30 (w0 := w) base (by rfl) (.tmp 17) (.tmp 19) 23 30 (.agg #[(.int .u8 0), (.int .i64 0), (.slice none 0 0), (.slice none 0 0), (.slice none 0 0)]) 88 rfl Try.underlying23 info30 rfl (by decide) (by omega) vD D (gapP I g) Ag (gapP I g).length cg (fun k => (okD k ∨ okI k) ∨ w.heap.size ≤ k) (fun k => okI k ∨ w2.heap.size ≤ k) rfl rfl (Kd.N_mono HD.out (fun k hk => .inl (.inl hk))) (Kd.N_F HN.out) ?aQ (fun k hk => .inr (Nat.le_trans HZ.out hk)) HB.out (Nat.le_trans hbase HZ.out) (by have := gapP_len I g; omega) ?_
 (case aQ => exact fun k hk => hk.elim (fun h_ => ⟨.inl (.inr h_), fun e_ => (H7.out k h_).2.2.2.1 (Kd.N_ok HD.out k e_.symm)⟩) (fun h_ => ⟨.inr (Nat.le_trans HZ2.out h_), fun e_ => by have := (H6.out k (Kd.N_ok HD.out k e_.symm)).2.2.2; have := HZ2.out; omega⟩))
 intro v1 w4 ho hb hg hat
 rw [HD1.out] at ho
 replace BK := Aside0.mk (blk_grown BK.out hg (fun e_ => (H6.out p (Kd.N_ok HD.out p e_.symm)).2.2.1 rfl))
 replace HK := Aside0.mk (Kept.of_grown hg HK.out (fun k e_ => .inl (H6.out k (Kd.N_ok HD.out k e_)).2.1))
 have hz4 := hg.size
 have HV := Aside0.mk (HC.out w4 HK.out hb)
 obtain ⟨A1, c1, rfl⟩ := Kd.N_slice ho
 rw [HL1.out] at ho ⊢
 replace HD := Aside0.mk ho
 replace HB := Aside0.mk hb
 clear ho hb hg hat HN
 refine hK.out _ _ ((blk_cell BK.out 0).trans rfl) (fun hHeld => ?_)
 clear hK K
 refine norm_ (a' := ?_) ?_ ?_
 rotate_left
 ·show Act.put _ (some 20) _ = _
  simp only [Act.put, List.setIfInBounds_toArray, List.set_cons_zero, List.set_cons_succ, i64_w, i32_w]
  rfl
 refine pure_ (i := 8) (N := some 21) (v := ?_) (a' := ?_) #[true, true, true, true, true, true, true, true, true, false, false] rfl rfl (any_of rfl (by kernel_rfl)) (fun _ _ _ h => h) (Or.inl ⟨by rfl, ?_⟩) ?_ ?_
 rotate_left
 ·intro w'
  go_simp
  with_reducible rfl
 rotate_left
 ·simp only [Act.put, List.setIfInBounds_toArray, List.set_cons_zero, List.set_cons_succ, i64_w, i32_w]
  rfl
 refine pure_ (i := 9) (N := some 22) (v := ?_) (a' := ?_) #[true, true, true, true, true, true, true, true, true, true, false] rfl rfl (any_of rfl (by kernel_rfl)) (fun _ _ _ h => h) (Or.inl ⟨by rfl, ?_⟩) ?_ ?_
 rotate_left
 ·intro w'
  go_simp
  with_reducible rfl
 rotate_left
 ·simp only [Act.put, List.setIfInBounds_toArray, List.set_cons_zero, List.set_cons_succ, i64_w, i32_w]
  rfl
 refine last_ (i := 10) (N := none) #[true, true, true, true, true, true, true, true, true, true, true] rfl rfl (one_of rfl (by kernel_rfl)) (by decide) (fun K hK => ?_)
 have e0 : w4.cell? ⟨p, 0, none⟩ = some vD := (blk_cell BK.out 0).trans rfl
 have f0 := blk_frozen BK.out 0
 refine skip_ (w1 := w4.setCell ⟨p, 0, none⟩ (.slice A1 (m + 1) c1)) (by rfl) rfl ?_ ?_
 ·go_simp
  try rfl
 refine hK.out _ _ ?_
 clear hK K
 refine done_ (done_of rfl (by kernel_rfl)) ?_
 clear c0 hHeld
 have BK5 := Aside0.mk (blk_put BK.out 0 (.slice A1 (m + 1) c1) rfl)
 have hkp : ∀ k, ((okD k ∨ okI k) ∨ w.heap.size ≤ k) → k ≠ p := fun k hk e_ => hk.elim (fun h_ => h_.elim (fun h2_ => (H6.out k h2_).2.2.1 e_) (fun h2_ => (H7.out k h2_).2.2.1 e_)) (fun h_ => by have := HP.out; omega)
 have HD5 := Aside0.mk (Kd.N_far HD.out (p := ⟨p, 0, none⟩) hkp (.slice A1 (m + 1) c1))
 have HK5 := Aside0.mk (HK.out.setCell (p := ⟨p, 0, none⟩) (.inl H3.out) (.slice A1 (m + 1) c1))
 have HB5 := Aside0.mk (HB.out.setCell (p := ⟨p, 0, none⟩) h2 (.slice A1 (m + 1) c1))
 have HKP := Aside0.mk hkp
 clear BK HD HK HB
 generalize w4.setCell ⟨p, 0, none⟩ (.slice A1 (m + 1) c1) = w5 at BK5 HD5 HK5 HB5 ⊢
 have e1 : w5.cell? ⟨p, 1, none⟩ = some (.slice Ai I.length ci) := (blk_cell BK5.out 1).trans rfl
 have e2 : w5.cell? ⟨p, 2, none⟩ = some (.int .i64 g) := (blk_cell BK5.out 2).trans rfl
 have f1 := blk_frozen BK5.out 1
 have f2 := blk_frozen BK5.out 2
 clear hkp
 go_upto_region 3 with (fail)
 have BK6 := Aside0.mk (blk_put (blk_put BK5.out 1 (.slice none 0 0) rfl) 2 (.int .i64 0) rfl)
 have HD6 := Aside0.mk (Kd.N_far (Kd.N_far HD5.out (p := ⟨p, 1, none⟩) HKP.out (.slice none 0 0)) (p := ⟨p, 2, none⟩) HKP.out (.int .i64 0))
 have HK6 := Aside0.mk ((HK5.out.setCell (p := ⟨p, 1, none⟩) (.inl H3.out) (.slice none 0 0)).setCell (p := ⟨p, 2, none⟩) (.inl H3.out) (.int .i64 0))
 have HB6 := Aside0.mk ((HB5.out.setCell (p := ⟨p, 1, none⟩) h2 (.slice none 0 0)).setCell (p := ⟨p, 2, none⟩) h2 (.int .i64 0))
 clear BK5 HD5 HK5 HB5 e1 e2 f1 f2
 generalize (w5.setCell ⟨p, 1, none⟩ (.slice none 0 0)).setCell ⟨p, 2, none⟩ (.int .i64 0) = w6 at BK6 HD6 HK6 HB6 ⊢
 obtain ⟨gD, capD, hvD, _, hgl, cellsD, hcD⟩ := Kd.N_form HD6.out (by have := HL1.out; omega)
 injection hvD with hA1 hlen_ hc1
 clear hlen_
 subst hA1
 subst hc1
 obtain ⟨ce, _, hFK, hcc, hfr⟩ := Kd.N_elem HD6.out z30 (m : Int) (by omega) (by omega)
 have hgetD : D1.getD (m : Int).toNat z30 = o := by rw [Int.toNat_natCast, List.getD_eq_getElem?_getD, ho]; rfl
 rw [hgetD] at hFK
 obtain ⟨A2, c2, A3, c3, A4, c4, rfl, _, _, _, _, hl4, hF4⟩ := k30_openF hFK
 have e0 : w6.cell? ⟨gD, m * 5, none⟩ = some (.int .u8 o.f0) := hcc 0 _ rfl
 have e1 : w6.cell? ⟨gD, m * 5 + 1, none⟩ = some (.int .i64 o.f1) := hcc 1 _ rfl
 have e4 : w6.cell? ⟨gD, m * 5 + 4, none⟩ = some (.slice A4 o.f4.length c4) := hcc 4 _ rfl
 have cp0 : w6.cell? ⟨p, 0, none⟩ = some (.slice (some ⟨gD, 0, none⟩) (m + 1) c1) := (blk_cell BK6.out 0).trans rfl
 have E1 := Aside0.mk e1
 have HF4 := Aside0.mk (Kd.F_now hF4)
 have HL4 := Aside0.mk hl4
 have HO_ := Aside0.mk ho
 have HKD := Aside0.mk hcD
 clear hFK hcc hfr hgetD hF4 hl4 hcD ho
 have hkb : (o.f0 == 1) = true := beq_iff_eq.2 hk
 have HQ := Aside0.mk hq
 clear hq
 go_wp2_with fail
 go_at_call 30
 refine (equalC_calls A4 c4 o.f4 Ap cp pt w6 HF4.out HL4.out (HC.out w6 HK6.out HB6.out) hcp).mono ?_
 rintro e w7 ⟨he, hb⟩
 rw [eqB_false.2 HQ.out] at he
 subst he
 replace BK6 := Aside0.mk (blk_below BK6.out hb)
 replace HD6 := Aside0.mk (Kd.N_below HD6.out hb)
 replace HB6 := Aside0.mk (below_then HB6.out (Nat.le_trans hbase HK6.out.1) hb)
 replace HK6 := Aside0.mk (HK6.out.below hb)
 clear hb cp0 e0 e1 e4
 go_wp2_with fail
 refine start_ (n := 14) (S := fun w' => w'.cell? ⟨p, 0, none⟩ = some (.slice (some ⟨gD, 0, none⟩) (m + 1) c1)) (ds := [13]) #[false, false, false, false, false, false, false, false, false, false, false, false, false, false] (by kernel_rfl) rfl rfl ((blk_cell (w := w7.drew) BK6.out 0).trans rfl) (fun hHeld => ?_)
 have hb := below_drew (Below.refl w7.heap.size w7)
 generalize w7.drew = w8 at hb hHeld ⊢
 replace BK6 := Aside0.mk (blk_below BK6.out hb)
 replace HD6 := Aside0.mk (Kd.N_below HD6.out hb)
 replace HB6 := Aside0.mk (below_then HB6.out (Nat.le_trans hbase HK6.out.1) hb)
 replace HK6 := Aside0.mk (HK6.out.below hb)
 clear hb
 have HPt := Aside0.mk (HC.out w8 HK6.out HB6.out)
 refine pure_ (i := 0) (N := some 72) (v := ?_) (a' := ?_) #[true, false, false, false, false, false, false, false, false, false, false, false, false, false] rfl rfl (any_of rfl (by kernel_rfl)) (fun _ _ _ h => h) (Or.inl ⟨by rfl, ?_⟩) ?_ ?_
 rotate_left
 ·intro w'
  go_simp
  with_reducible rfl
 rotate_left
 ·simp only [Act.put, List.setIfInBounds_toArray, List.set_cons_zero, List.set_cons_succ, i64_w, i32_w]
  rfl
 refine pure_ (i := 1) (N := some 73) (v := ?_) (a' := ?_) #[true, true, false, false, false, false, false, false, false, false, false, false, false, false] rfl rfl (any_of rfl (by kernel_rfl)) (fun _ _ _ h => h) (Or.inl ⟨by rfl, ?_⟩) ?_ ?_
 rotate_left
 ·intro w'
  go_simp
  with_reducible rfl
 rotate_left
 ·simp only [Act.put, List.setIfInBounds_toArray, List.set_cons_zero, List.set_cons_succ, i64_w, i32_w]
  rfl
 refine pure_ (i := 2) (N := some 74) (v := ?_) (a' := ?_) #[true, true, true, false, false, false, false, false, false, false, false, false, false, false] rfl rfl (any_of rfl (by kernel_rfl)) (fun _ _ _ h => h) (Or.inl ⟨by rfl, ?_⟩) ?_ ?_
 rotate_left
 ·intro w'
  go_simp
  with_reducible rfl
 rotate_left
 ·simp only [Act.put, List.setIfInBounds_toArray, List.set_cons_zero, List.set_cons_succ, i64_w, i32_w]
  rfl
 refine pure_ (i := 3) (N := some 75) (v := ?_) (a' := ?_) #[true, true, true, true, false, false, false, false, false, false, false, false, false, false] rfl rfl (any_of rfl (by kernel_rfl)) (fun _ _ _ h => h) (Or.inl ⟨by rfl, ?_⟩) ?_ ?_
 rotate_left
 ·intro w'
  go_simp
  with_reducible rfl
 rotate_left
 ·simp only [Act.put, List.setIfInBounds_toArray, List.set_cons_zero, List.set_cons_succ, i64_w, i32_w]
  rfl
 refine pure_ (i := 5) (N := some 77) (v := ?_) (a' := ?_) #[true, true, true, true, false, true, false, false, false, false, false, false, false, false] rfl rfl (any_of rfl (by kernel_rfl)) (fun _ _ _ h => h) (Or.inl ⟨by rfl, ?_⟩) ?_ ?_
 rotate_left
 ·intro w'
  go_simp
  with_reducible rfl
 rotate_left
 ·simp only [Act.put, List.setIfInBounds_toArray, List.set_cons_zero, List.set_cons_succ, i64_w, i32_w]
  rfl
 refine pure_ (i := 6) (N := some 78) (v := ?_) (a' := ?_) #[true, true, true, true, false, true, true, false, false, false, false, false, false, false] rfl rfl (any_of rfl (by kernel_rfl)) (fun _ _ _ h => h) (Or.inl ⟨by rfl, ?_⟩) ?_ ?_
 rotate_left
 ·intro w'
  go_simp
  with_reducible rfl
 rotate_left
 ·simp only [Act.put, List.setIfInBounds_toArray, List.set_cons_zero, List.set_cons_succ, i64_w, i32_w]
  rfl
 refine take_ (i := 4) (N := some 76) (v := ?_) (a' := ?_) #[true, true, true, true, true, true, true, false, false, false, false, false, false, false] rfl rfl (take_of rfl (by kernel_rfl)) (fun _ _ _ h => h) (Or.inl ⟨by rfl, ?_⟩) hHeld ?_ ?_
 rotate_left
 ·rintro w' s0
  go_simp
  with_reducible rfl
 rotate_left
 ·simp only [Act.put, List.setIfInBounds_toArray, List.set_cons_zero, List.set_cons_succ, i64_w, i32_w]
  rfl
 refine one_ (i := 7) (N := some 79) #[true, true, true, true, true, true, true, true, false, false, false, false, false, false] rfl rfl (one_of rfl (by kernel_rfl)) (by decide) (fun K hK => ?_)
 refine goes_ Try.func36 (by kernel_rfl) rfl #[.slice Ap pt.length cp] (by rfl) rfl rfl (by (try simp only [List.map_toArray, List.map_cons, List.map_nil]); first | done | rfl) ?_
 refine (patch_Copy.calls Ap cp pt pt w8 HPt.out hcp (copyC_eq pt hpl)).mono ?_
 rintro e w9 ⟨vp, rfl, hv, hb⟩
 obtain ⟨A4_, c4_, rfl⟩ := Kd.R_slice hv
 have VP := Aside0.mk (Kd.R_bound hv)
 have HW := Aside0.mk (fun k (e_ : Value.ownBlock (.slice (some ⟨gD, 0, none⟩) (m + 1) c1) = some k) => Kd.N_lt HD6.out k e_)
 have HZ8 := Aside0.mk HK6.out.1
 replace BK6 := Aside0.mk (blk_below BK6.out hb)
 replace HD6 := Aside0.mk (Kd.N_below HD6.out hb)
 replace HB6 := Aside0.mk (below_then HB6.out (Nat.le_trans hbase HK6.out.1) hb)
 replace HK6 := Aside0.mk (HK6.out.below hb)
 clear hv hb HPt
 refine ⟨_, rfl, ?_⟩
 refine hK.out _ _ ((blk_cell BK6.out 0).trans rfl) (fun hHeld => ?_)
 clear hK K
 refine norm_ (a' := ?_) ?_ ?_
 rotate_left
 ·show Act.put _ (some 79) _ = _
  simp only [Act.put, List.setIfInBounds_toArray, List.set_cons_zero, List.set_cons_succ, i64_w, i32_w]
  rfl
 refine pure_ (i := 8) (N := some 80) (v := ?_) (a' := ?_) #[true, true, true, true, true, true, true, true, true, false, false, false, false, false] rfl rfl (any_of rfl (by kernel_rfl)) (fun _ _ _ h => h) (Or.inl ⟨by rfl, ?_⟩) ?_ ?_
 rotate_left
 ·intro w'
  go_simp
  with_reducible rfl
 rotate_left
 ·simp only [Act.put, List.setIfInBounds_toArray, List.set_cons_zero, List.set_cons_succ, i64_w, i32_w]
  rfl
 refine one_ (i := 9) (N := some 81) #[true, true, true, true, true, true, true, true, true, true, false, false, false, false] rfl rfl (one_of rfl (by kernel_rfl)) (by decide) (fun K hK => ?_)
 refine value_ (w1 := ?_) (v := ?_) (by rfl) rfl ?_ ?_
 rotate_left 2
 ·go_simp
  constructor
  ·rfl
  ·rfl
 refine hK.out _ _ ((blk_cell (blk_alloc BK6.out _) 0).trans rfl) (fun hHeld => ?_)
 clear hK K
 refine norm_ (a' := ?_) ?_ ?_
 rotate_left
 ·show Act.put _ (some 81) _ = _
  simp only [Act.put, List.setIfInBounds_toArray, List.set_cons_zero, List.set_cons_succ, i64_w, i32_w]
  rfl
 refine one_ (i := 10) (N := some 82) #[true, true, true, true, true, true, true, true, true, true, true, false, false, false] rfl rfl (one_of rfl (by kernel_rfl)) (by decide) (fun K hK => ?_)
 refine Kd.N_append_step k30 (w0 := w) base (by rfl) (.tmp 76) (.tmp 81) 23 30 (.agg #[(.int .u8 0), (.int .i64 0), (.slice none 0 0), (.slice none 0 0), (.slice none 0 0)]) 88 rfl Try.underlying23 info30 rfl (by decide) (by omega) (.slice (some ⟨gD, 0, none⟩) (m + 1) c1) D1 (⟨1, n, [], [], pt⟩ : S30) [.int .u8 1, .int .i64 n, .slice none 0 0, .slice none 0 0, .slice A4_ pt.length c4_] (fun k => (okD k ∨ okI k) ∨ w.heap.size ≤ k) (fun k => w8.heap.size ≤ k) rfl rfl ?aP ?aQ (fun k hk => .inr (Nat.le_trans HK6.out.1 hk)) HD6.out HB6.out (Nat.le_trans hbase HK6.out.1) (by have := HL1.out; omega) ?_
 (case aP => exact k30_mkF _ _ (⟨1, n, [], [], pt⟩ : S30) (by simp) (Kd.F_nil _ _ _) (by simp) (Kd.F_nil _ _ _) (Kd.R_reads' VP.out).2.1 (Kd.F_mono (Kd.R_F VP.out) (fun k hk => hk.2.1)))
 (case aQ => exact fun k hk => ⟨.inr (Nat.le_trans HZ8.out hk), fun e_ => by have := HW.out k e_.symm; omega⟩)
 intro v5 w10 ho hb hg hat
 obtain ⟨A5, c5, rfl⟩ := Kd.N_slice ho
 replace BK6 := Aside0.mk (blk_grown BK6.out hg (fun e_ => HKP.out p (Kd.N_ok HD6.out p e_.symm) rfl))
 replace HK6 := Aside0.mk (Kept.of_grown hg HK6.out (fun k e_ => (Kd.N_ok HD6.out k e_).elim (fun h_ => .inl (h_.elim (fun h2_ => (H6.out k h2_).2.1) (fun h2_ => (H7.out k h2_).2.1))) .inr))
 replace HD6 := Aside0.mk ho
 replace HB6 := Aside0.mk hb
 clear ho hb hg hat
 refine hK.out _ _ ((blk_cell BK6.out 0).trans rfl) (fun hHeld => ?_)
 clear hK K
 refine norm_ (a' := ?_) ?_ ?_
 rotate_left
 ·show Act.put _ (some 82) _ = _
  simp only [Act.put, List.setIfInBounds_toArray, List.set_cons_zero, List.set_cons_succ, i64_w, i32_w]
  rfl
 refine pure_ (i := 11) (N := some 83) (v := ?_) (a' := ?_) #[true, true, true, true, true, true, true, true, true, true, true, true, false, false] rfl rfl (any_of rfl (by kernel_rfl)) (fun _ _ _ h => h) (Or.inl ⟨by rfl, ?_⟩) ?_ ?_
 rotate_left
 ·intro w'
  go_simp
  with_reducible rfl
 rotate_left
 ·simp only [Act.put, List.setIfInBounds_toArray, List.set_cons_zero, List.set_cons_succ, i64_w, i32_w]
  rfl
 refine pure_ (i := 12) (N := some 84) (v := ?_) (a' := ?_) #[true, true, true, true, true, true, true, true, true, true, true, true, true, false] rfl rfl (any_of rfl (by kernel_rfl)) (fun _ _ _ h => h) (Or.inl ⟨by rfl, ?_⟩) ?_ ?_
 rotate_left
 ·intro w'
  go_simp
  with_reducible rfl
 rotate_left
 ·simp only [Act.put, List.setIfInBounds_toArray, List.set_cons_zero, List.set_cons_succ, i64_w, i32_w]
  rfl
 refine last_ (i := 13) (N := none) #[true, true, true, true, true, true, true, true, true, true, true, true, true, true] rfl rfl (one_of rfl (by kernel_rfl)) (by decide) (fun K hK => ?_)
 have e0 : w10.cell? ⟨p, 0, none⟩ = some (.slice (some ⟨gD, 0, none⟩) (m + 1) c1) := (blk_cell BK6.out 0).trans rfl
 have f0 := blk_frozen BK6.out 0
 refine skip_ (w1 := w10.setCell ⟨p, 0, none⟩ (.slice A5 (D1 ++ [(⟨1, n, [], [], pt⟩ : S30)]).length c5)) (by rfl) rfl ?_ ?_
 ·go_simp
  try rfl
 refine hK.out _ _ ?_
 clear hK K
 refine done_ (done_of rfl (by kernel_rfl)) ?_
 go_wp2
 go_end0
 refine ⟨rfl, ⟨_, _, _, fun _ => False, blk_put BK6.out 0 _ rfl, h2, .inl H3.out, Kd.N_far HD6.out (p := ⟨p, 0, none⟩) HKP.out _, Kd.S_nil _ _ _ _ _, ?_, fun k hk => hk.elim⟩, HK6.out.setCell (p := ⟨p, 0, none⟩) (.inl H3.out) _, HB6.out.setCell (p := ⟨p, 0, none⟩) h2 _⟩
 exact fun k hk => ⟨hk.elim (fun h_ => h_.elim (fun h2_ => (H6.out k h2_).1) (fun h2_ => (H7.out k h2_).1)) (fun h_ => Nat.le_trans hbase h_), hk.elim (fun h_ => .inl (h_.elim (fun h2_ => (H6.out k h2_).2.1) (fun h2_ => (H7.out k h2_).2.1))) .inr, HKP.out k hk⟩
set_option maxHeartbeats 4000000 in
set_option maxRecDepth 100000 in
theorem retain_3 (p : Nat) (D I : List S30) (g : Int) (base : Nat) (ok : Nat → Prop) (n : Int) (Ap : Option Addr) (cp : Nat) (pt : List S42) (w : World) (hM : Mk w base ok p D I g) (hbase : base ≤ w.heap.size) (hC : ∀ w', Kept w w' ok → Below base w w' → Kd.C k42 w' Ap pt.length pt) (hcp : pt.length ≤ cp) (hn : 1 ≤ n) (hpl : pt.length ≤ 1000000) (hIl : I.length ≤ 1000000) (hDl : D.length ≤ 1000000) (D1 : List S30) (hD1 : D ++ gapP I g = D1) (m : Nat) (o : S30) (hL1 : D1.length = m + 1) (hm1 : m + 1 ≤ 3000000) (ho : D1[m]? = some o) (hk : o.f0 = 1) (hq : keyC o.f4 = keyC pt) :
  Calls Try.prog 20 #[.pointer (some ⟨p, 0, none⟩), .int .i64 n, .slice Ap pt.length cp] w fun e w' => e = .returned (.tuple #[]) ∧ MkPost w base ok p (D1.set (m : Int).toNat ⟨o.f0, wrap64 (o.f1 + n), o.f2, o.f3, o.f4⟩) [] 0 w' := by
 obtain ⟨vD, vI, okD, okI, h1, h2, h3, h4, h5, h6, h7⟩ := hM.bound
 have BK := Aside0.mk h1
 have HP := Aside0.mk (blk_lt h1)
 have HD := Aside0.mk h4
 have HI := Aside0.mk h5
 have H6 : Aside0 (∀ k, okD k → base ≤ k ∧ ok k ∧ k ≠ p ∧ k < w.heap.size) := Aside0.mk (fun k hk => ⟨(h6 k hk).1, (h6 k hk).2.1.1, (h6 k hk).2.2, (h6 k hk).2.1.2⟩)
 have H7 : Aside0 (∀ k, okI k → base ≤ k ∧ ok k ∧ k ≠ p ∧ ¬ okD k ∧ k < w.heap.size) := Aside0.mk (fun k hk => ⟨(h7 k hk).1, (h7 k hk).2.1.1, (h7 k hk).2.2.1, (h7 k hk).2.2.2, (h7 k hk).2.1.2⟩)
 have H3 := Aside0.mk h3.1
 have HK := Aside0.mk (Kept.refl w ok)
 have HB := Aside0.mk (Below.refl base w)
 have HZ := Aside0.mk (Nat.le_refl w.heap.size)
 obtain ⟨Ai, ci, hvI⟩ := Kd.S_slice h5
 subst hvI
 have c0 : w.cell? ⟨p, 0, none⟩ = some vD := (blk_cell h1 0).trans rfl
 have hn1 : decide (n < 1) = false := decide_eq_false (by omega)
 have HD1 := Aside0.mk hD1
 have HL1 := Aside0.mk hL1
 clear hD1 hL1
 have HC := Aside0.mk hC
 have HP_ := Aside0.mk (hC w (Kept.refl _ _) (Below.refl _ _))
 clear h1 h3 h4 h5 h6 h7 hM hC
 go_enter Try.func20, Try.ntmps20
 go_wp2_with fail
 refine start_ (n := 11) (S := fun w' => w'.cell? ⟨p, 0, none⟩ = some vD) (ds := [10]) #[false, false, false, false, false, false, false, false, false, false, false] (by kernel_rfl) rfl rfl ((blk_cell (w := w.drew) BK.out 0).trans rfl) (fun hHeld => ?_)
 have hb := below_drew (Below.refl w.heap.size w)
 generalize w.drew = w2 at hb hHeld ⊢
 replace BK := Aside0.mk (blk_below BK.out hb)
 replace HD := Aside0.mk (Kd.N_below HD.out hb)
 replace HB := Aside0.mk (below_then HB.out (Nat.le_trans hbase HZ.out) hb)
 replace HK := Aside0.mk (HK.out.below hb)
 replace HZ := Aside0.mk (Nat.le_trans HZ.out hb.size)
 replace HI := Aside0.mk (Kd.S_below HI.out hb)
 replace HP_ := Aside0.mk (Kd.C_below HP_.out hb)
 clear hb
 refine pure_ (i := 0) (N := some 13) (v := ?_) (a' := ?_) #[true, false, false, false, false, false, false, false, false, false, false] rfl rfl (any_of rfl (by kernel_rfl)) (fun _ _ _ h => h) (Or.inl ⟨by rfl, ?_⟩) ?_ ?_
 rotate_left
 ·intro w'
  go_simp
  with_reducible rfl
 rotate_left
 ·simp only [Act.put, List.setIfInBounds_toArray, List.set_cons_zero, List.set_cons_succ, i64_w, i32_w]
  rfl
 refine pure_ (i := 1) (N := some 14) (v := ?_) (a' := ?_) #[true, true, false, false, false, false, false, false, false, false, false] rfl rfl (any_of rfl (by kernel_rfl)) (fun _ _ _ h => h) (Or.inl ⟨by rfl, ?_⟩) ?_ ?_
 rotate_left
 ·intro w'
  go_simp
  with_reducible rfl
 rotate_left
 ·simp only [Act.put, List.setIfInBounds_toArray, List.set_cons_zero, List.set_cons_succ, i64_w, i32_w]
  rfl
 refine pure_ (i := 2) (N := some 15) (v := ?_) (a' := ?_) #[true, true, true, false, false, false, false, false, false, false, false] rfl rfl (any_of rfl (by kernel_rfl)) (fun _ _ _ h => h) (Or.inl ⟨by rfl, ?_⟩) ?_ ?_
 rotate_left
 ·intro w'
  go_simp
  with_reducible rfl
 rotate_left
 ·simp only [Act.put, List.setIfInBounds_toArray, List.set_cons_zero, List.set_cons_succ, i64_w, i32_w]
  rfl
 refine pure_ (i := 3) (N := some 16) (v := ?_) (a' := ?_) #[true, true, true, true, false, false, false, false, false, false, false] rfl rfl (any_of rfl (by kernel_rfl)) (fun _ _ _ h => h) (Or.inl ⟨by rfl, ?_⟩) ?_ ?_
 rotate_left
 ·intro w'
  go_simp
  with_reducible rfl
 rotate_left
 ·simp only [Act.put, List.setIfInBounds_toArray, List.set_cons_zero, List.set_cons_succ, i64_w, i32_w]
  rfl
 refine pure_ (i := 5) (N := some 18) (v := ?_) (a' := ?_) #[true, true, true, true, false, true, false, false, false, false, false] rfl rfl (any_of rfl (by kernel_rfl)) (fun _ _ _ h => h) (Or.inl ⟨by rfl, ?_⟩) ?_ ?_
 rotate_left
 ·intro w'
  go_simp
  with_reducible rfl
 rotate_left
 ·simp only [Act.put, List.setIfInBounds_toArray, List.set_cons_zero, List.set_cons_succ, i64_w, i32_w]
  rfl
 refine take_ (i := 4) (N := some 17) (v := ?_) (a' := ?_) #[true, true, true, true, true, true, false, false, false, false, false] rfl rfl (take_of rfl (by kernel_rfl)) (fun _ _ _ h => h) (Or.inl ⟨by rfl, ?_⟩) hHeld ?_ ?_
 rotate_left
 ·rintro w' s0
  go_simp
  with_reducible rfl
 rotate_left
 ·simp only [Act.put, List.setIfInBounds_toArray, List.set_cons_zero, List.set_cons_succ, i64_w, i32_w]
  rfl
 refine one_ (i := 6) (N := some 19) #[true, true, true, true, true, true, true, false, false, false, false] rfl rfl (one_of rfl (by kernel_rfl)) (by decide) (fun K hK => ?_)
 refine goes_ Try.func35 (by kernel_rfl) rfl #[.pointer (some ⟨p, 0, none⟩)] (by rfl) rfl rfl (by (try simp only [List.map_toArray, List.map_cons, List.map_nil]); first | done | rfl) ?_
 refine (gap_calls p Ai ci I g okI w2 ((blk_cell BK.out 1).trans rfl) ((blk_cell BK.out 2).trans rfl) (Kd.S_V HI.out) hIl).mono ?_
 rintro e w3 ⟨vg, rfl, hN, hb⟩
 have HN := Aside0.mk hN
 have HZ2 := Aside0.mk HZ.out
 replace BK := Aside0.mk (blk_below BK.out hb)
 replace HD := Aside0.mk (Kd.N_below HD.out hb)
 replace HB := Aside0.mk (below_then HB.out (Nat.le_trans hbase HZ.out) hb)
 replace HK := Aside0.mk (HK.out.below hb)
 replace HZ := Aside0.mk (Nat.le_trans HZ.out hb.size)
 replace HP_ := Aside0.mk (Kd.C_below HP_.out hb)
 clear hN hb HI
 obtain ⟨Ag, cg, rfl⟩ := Kd.N_slice HN.out
 refine ⟨_, rfl, ?_⟩
 refine hK.out _ _ ((blk_cell BK.out 0).trans rfl) (fun hHeld => ?_)
 clear hK K
 refine norm_ (a' := ?_) ?_ ?_
 rotate_left
 ·show Act.put _ (some 19) _ = _
  simp only [Act.put, List.setIfInBounds_toArray, List.set_cons_zero, List.set_cons_succ, i64_w, i32_w]
  rfl
 refine one_ (i := 7) (N := some 20) #[true, true, true, true, true, true, true, true, false, false, false] rfl rfl (one_of rfl (by kernel_rfl)) (by decide) (fun K hK => ?_)
 refine Kd.N_append_rows_step k30 (w0 := w) base (by rfl) (.tmp 17) (.tmp 19) 23 30 (.agg #[(.int .u8 0), (.int .i64 0), (.slice none 0 0), (.slice none 0 0), (.slice none 0 0)]) 88 rfl Try.underlying23 info30 rfl (by decide) (by omega) vD D (gapP I g) Ag (gapP I g).length cg (fun k => (okD k ∨ okI k) ∨ w.heap.size ≤ k) (fun k => okI k ∨ w2.heap.size ≤ k) rfl rfl (Kd.N_mono HD.out (fun k hk => .inl (.inl hk))) (Kd.N_F HN.out) ?aQ (fun k hk => .inr (Nat.le_trans HZ.out hk)) HB.out (Nat.le_trans hbase HZ.out) (by have := gapP_len I g; omega) ?_
 (case aQ => exact fun k hk => hk.elim (fun h_ => ⟨.inl (.inr h_), fun e_ => (H7.out k h_).2.2.2.1 (Kd.N_ok HD.out k e_.symm)⟩) (fun h_ => ⟨.inr (Nat.le_trans HZ2.out h_), fun e_ => by have := (H6.out k (Kd.N_ok HD.out k e_.symm)).2.2.2; have := HZ2.out; omega⟩))
 intro v1 w4 ho hb hg hat
 rw [HD1.out] at ho
 replace BK := Aside0.mk (blk_grown BK.out hg (fun e_ => (H6.out p (Kd.N_ok HD.out p e_.symm)).2.2.1 rfl))
 replace HK := Aside0.mk (Kept.of_grown hg HK.out (fun k e_ => .inl (H6.out k (Kd.N_ok HD.out k e_)).2.1))
 have hz4 := hg.size
 have HV := Aside0.mk (HC.out w4 HK.out hb)
 obtain ⟨A1, c1, rfl⟩ := Kd.N_slice ho
 rw [HL1.out] at ho ⊢
 replace HD := Aside0.mk ho
 replace HB := Aside0.mk hb
 clear ho hb hg hat HN
 refine hK.out _ _ ((blk_cell BK.out 0).trans rfl) (fun hHeld => ?_)
 clear hK K
 refine norm_ (a' := ?_) ?_ ?_
 rotate_left
 ·show Act.put _ (some 20) _ = _
  simp only [Act.put, List.setIfInBounds_toArray, List.set_cons_zero, List.set_cons_succ, i64_w, i32_w]
  rfl
 refine pure_ (i := 8) (N := some 21) (v := ?_) (a' := ?_) #[true, true, true, true, true, true, true, true, true, false, false] rfl rfl (any_of rfl (by kernel_rfl)) (fun _ _ _ h => h) (Or.inl ⟨by rfl, ?_⟩) ?_ ?_
 rotate_left
 ·intro w'
  go_simp
  with_reducible rfl
 rotate_left
 ·simp only [Act.put, List.setIfInBounds_toArray, List.set_cons_zero, List.set_cons_succ, i64_w, i32_w]
  rfl
 refine pure_ (i := 9) (N := some 22) (v := ?_) (a' := ?_) #[true, true, true, true, true, true, true, true, true, true, false] rfl rfl (any_of rfl (by kernel_rfl)) (fun _ _ _ h => h) (Or.inl ⟨by rfl, ?_⟩) ?_ ?_
 rotate_left
 ·intro w'
  go_simp
  with_reducible rfl
 rotate_left
 ·simp only [Act.put, List.setIfInBounds_toArray, List.set_cons_zero, List.set_cons_succ, i64_w, i32_w]
  rfl
 refine last_ (i := 10) (N := none) #[true, true, true, true, true, true, true, true, true, true, true] rfl rfl (one_of rfl (by kernel_rfl)) (by decide) (fun K hK => ?_)
 have e0 : w4.cell? ⟨p, 0, none⟩ = some vD := (blk_cell BK.out 0).trans rfl
 have f0 := blk_frozen BK.out 0
 refine skip_ (w1 := w4.setCell ⟨p, 0, none⟩ (.slice A1 (m + 1) c1)) (by rfl) rfl ?_ ?_
 ·go_simp
  try rfl
 refine hK.out _ _ ?_
 clear hK K
 refine done_ (done_of rfl (by kernel_rfl)) ?_
 clear c0 hHeld
 have BK5 := Aside0.mk (blk_put BK.out 0 (.slice A1 (m + 1) c1) rfl)
 have hkp : ∀ k, ((okD k ∨ okI k) ∨ w.heap.size ≤ k) → k ≠ p := fun k hk e_ => hk.elim (fun h_ => h_.elim (fun h2_ => (H6.out k h2_).2.2.1 e_) (fun h2_ => (H7.out k h2_).2.2.1 e_)) (fun h_ => by have := HP.out; omega)
 have HD5 := Aside0.mk (Kd.N_far HD.out (p := ⟨p, 0, none⟩) hkp (.slice A1 (m + 1) c1))
 have HK5 := Aside0.mk (HK.out.setCell (p := ⟨p, 0, none⟩) (.inl H3.out) (.slice A1 (m + 1) c1))
 have HB5 := Aside0.mk (HB.out.setCell (p := ⟨p, 0, none⟩) h2 (.slice A1 (m + 1) c1))
 have HKP := Aside0.mk hkp
 clear BK HD HK HB
 generalize w4.setCell ⟨p, 0, none⟩ (.slice A1 (m + 1) c1) = w5 at BK5 HD5 HK5 HB5 ⊢
 have e1 : w5.cell? ⟨p, 1, none⟩ = some (.slice Ai I.length ci) := (blk_cell BK5.out 1).trans rfl
 have e2 : w5.cell? ⟨p, 2, none⟩ = some (.int .i64 g) := (blk_cell BK5.out 2).trans rfl
 have f1 := blk_frozen BK5.out 1
 have f2 := blk_frozen BK5.out 2
 clear hkp
 go_upto_region 3 with (fail)
 have BK6 := Aside0.mk (blk_put (blk_put BK5.out 1 (.slice none 0 0) rfl) 2 (.int .i64 0) rfl)
 have HD6 := Aside0.mk (Kd.N_far (Kd.N_far HD5.out (p := ⟨p, 1, none⟩) HKP.out (.slice none 0 0)) (p := ⟨p, 2, none⟩) HKP.out (.int .i64 0))
 have HK6 := Aside0.mk ((HK5.out.setCell (p := ⟨p, 1, none⟩) (.inl H3.out) (.slice none 0 0)).setCell (p := ⟨p, 2, none⟩) (.inl H3.out) (.int .i64 0))
 have HB6 := Aside0.mk ((HB5.out.setCell (p := ⟨p, 1, none⟩) h2 (.slice none 0 0)).setCell (p := ⟨p, 2, none⟩) h2 (.int .i64 0))
 clear BK5 HD5 HK5 HB5 e1 e2 f1 f2
 generalize (w5.setCell ⟨p, 1, none⟩ (.slice none 0 0)).setCell ⟨p, 2, none⟩ (.int .i64 0) = w6 at BK6 HD6 HK6 HB6 ⊢
 obtain ⟨gD, capD, hvD, _, hgl, cellsD, hcD⟩ := Kd.N_form HD6.out (by have := HL1.out; omega)
 injection hvD with hA1 hlen_ hc1
 clear hlen_
 subst hA1
 subst hc1
 obtain ⟨ce, _, hFK, hcc, hfr⟩ := Kd.N_elem HD6.out z30 (m : Int) (by omega) (by omega)
 have hgetD : D1.getD (m : Int).toNat z30 = o := by rw [Int.toNat_natCast, List.getD_eq_getElem?_getD, ho]; rfl
 rw [hgetD] at hFK
 obtain ⟨A2, c2, A3, c3, A4, c4, rfl, _, _, _, _, hl4, hF4⟩ := k30_openF hFK
 have e0 : w6.cell? ⟨gD, m * 5, none⟩ = some (.int .u8 o.f0) := hcc 0 _ rfl
 have e1 : w6.cell? ⟨gD, m * 5 + 1, none⟩ = some (.int .i64 o.f1) := hcc 1 _ rfl
 have e4 : w6.cell? ⟨gD, m * 5 + 4, none⟩ = some (.slice A4 o.f4.length c4) := hcc 4 _ rfl
 have cp0 : w6.cell? ⟨p, 0, none⟩ = some (.slice (some ⟨gD, 0, none⟩) (m + 1) c1) := (blk_cell BK6.out 0).trans rfl
 have E1 := Aside0.mk e1
 have HF4 := Aside0.mk (Kd.F_now hF4)
 have HL4 := Aside0.mk hl4
 have HO_ := Aside0.mk ho
 have HKD := Aside0.mk hcD
 clear hFK hcc hfr hgetD hF4 hl4 hcD ho
 have hkb : (o.f0 == 1) = true := beq_iff_eq.2 hk
 have HQ := Aside0.mk hq
 clear hq
 go_wp2_with fail
 go_at_call 30
 refine (equalC_calls A4 c4 o.f4 Ap cp pt w6 HF4.out HL4.out (HC.out w6 HK6.out HB6.out) hcp).mono ?_
 rintro e w7 ⟨he, hb⟩
 rw [eqB_true.2 HQ.out] at he
 subst he
 replace BK6 := Aside0.mk (blk_below BK6.out hb)
 replace HD6 := Aside0.mk (Kd.N_below HD6.out hb)
 replace HB6 := Aside0.mk (below_then HB6.out (Nat.le_trans hbase HK6.out.1) hb)
 replace HK6 := Aside0.mk (HK6.out.below hb)
 replace HKD := Aside0.mk (blk_below HKD.out hb)
 clear hb cp0 e0 e1 e4 HF4
 obtain ⟨ce, hcl, hFK, hcc, hfr⟩ := Kd.N_elem HD6.out z30 (m : Int) (by omega) (by omega)
 have hgetD : D1.getD (m : Int).toNat z30 = o := by rw [Int.toNat_natCast, List.getD_eq_getElem?_getD, HO_.out]; rfl
 rw [hgetD] at hFK
 obtain ⟨A2, c2, A3, c3, A4, c4, rfl, l2, F2, l3, F3, l4, F4⟩ := k30_openF hFK
 have e1 : w7.cell? ⟨gD, m * 5 + 1, none⟩ = some (.int .i64 o.f1) := hcc 1 _ rfl
 have cp0 : w7.cell? ⟨p, 0, none⟩ = some (.slice (some ⟨gD, 0, none⟩) (m + 1) c1) := (blk_cell BK6.out 0).trans rfl
 have f1 := blk_frozen HKD.out (m * 5 + 1)
 have hS := Kd.N_seg HD6.out (m : Int) (by omega) (by omega) hcl hcc (seg := [.int .i64 (wrap64 (o.f1 + n))]) (j := 1) (show 1 + 1 ≤ 5 from by decide) (x' := (⟨o.f0, wrap64 (o.f1 + n), o.f2, o.f3, o.f4⟩ : S30)) (k30_mkF _ _ (⟨o.f0, wrap64 (o.f1 + n), o.f2, o.f3, o.f4⟩ : S30) l2 F2 l3 F3 l4 F4) (fun _ hk => hk)
 have HS := Aside0.mk hS.1
 have hgk : (okD gD ∨ okI gD) ∨ w.heap.size ≤ gD := Kd.N_ok HD6.out gD (by simp [Value.ownBlock])
 have HGK := Aside0.mk hgk
 clear hS hFK hcc hfr hcl hgetD l2 F2 l3 F3 l4 F4 hgk
 have q0 : (0 : Int) ≤ (m : Int) := Int.natCast_nonneg m
 have q1 : (m : Int) < (m : Int) + 1 := by omega
 go_wp2_with fail
 refine bodyPost_ret (results_none rfl _ _ _) rfl ?_
 have hgp := HKP.out gD HGK.out
 have hgb : base ≤ gD := HGK.out.elim (fun h_ => h_.elim (fun h2_ => (H6.out gD h2_).1) (fun h2_ => (H7.out gD h2_).1)) (fun h_ => Nat.le_trans hbase h_)
 refine ⟨rfl, ⟨_, _, _, fun _ => False, (Below.heap_setCell w7 ⟨gD, m * 5 + 1, none⟩ _ p (fun e_ => hgp e_.symm)).trans BK6.out, h2, .inl H3.out, HS.out, Kd.S_nil _ _ _ _ _, ?_, fun k hk => hk.elim⟩, HK6.out.setCell (p := ⟨gD, m * 5 + 1, none⟩) (HGK.out.imp (fun h_ => h_.elim (fun h2_ => (H6.out gD h2_).2.1) (fun h2_ => (H7.out gD h2_).2.1)) id) _, HB6.out.setCell (p := ⟨gD, m * 5 + 1, none⟩) hgb _⟩
 exact fun k hk => ⟨hk.elim (fun h_ => h_.elim (fun h2_ => (H6.out k h2_).1) (fun h2_ => (H7.out k h2_).1)) (fun h_ => Nat.le_trans hbase h_), hk.elim (fun h_ => .inl (h_.elim (fun h2_ => (H6.out k h2_).2.1) (fun h2_ => (H7.out k h2_).2.1))) .inr, HKP.out k hk⟩
end Go.Proofs.Ytmjeoknamoegpaa.P
namespace Go.Proofs.Ytmjeoknamoegpaa.P
open Go.RowKit Go.Proofs.YtmjeoknamoegpaaW.PrintWords Go.Proofs.YtmjeoknamoegpaaW.PrintLast Go.Proofs.YtmjeoknamoegpaaW.PrintMore
set_option linter.unusedVariables false
set_option linter.unusedSimpArgs false
set_option maxHeartbeats 1000000 in
set_option maxRecDepth 100000 in
theorem grow_calls (n : Nat) (hn : n ≤ 3000000) (w : World) :
  Calls Try.prog 51 #[.slice none 0 0, .int .i64 (n : Int)] w fun e w' => ∃ v : Value, e = .returned v ∧ Kd.N k30 30 w' w.heap.size (fun k => w.heap.size ≤ k) v [] ∧ Below w.heap.size w w' := by
 rcases Nat.eq_zero_or_pos n with h0 | hp
 ·subst h0
  go_enter Try.func51, Try.ntmps51
  go_wp2
  go_ret
  exact ⟨_, rfl, Kd.N_nil _ _ _ _ _, Below.refl _ _⟩
 ·have h1 : (0 : Int) < (n : Int) := by omega
  go_enter Try.func51, Try.ntmps51
  go_wp2_with ((with_reducible refine gate_builtin (b := .append) (xs := #[.tmp 20, .tmp 21]) rfl ?_); at_builtin; refine Kd.N_append_zeros k30 (w0 := w) w.heap.size rfl (.tmp 20) (.tmp 21) 23 3 30 (.agg #[(.int .u8 0), (.int .i64 0), (.slice none 0 0), (.slice none 0 0), (.slice none 0 0)]) 88 rfl Try.underlying23 Try.underlying3 info30 rfl (by decide) (by omega) (.slice none 0 0) [] z30 (n : Int) (fun k => w.heap.size ≤ k) rfl rfl (op3_FK _ _ _ _) (fun k hk => hk) (Kd.N_nil _ _ _ _ _) (by omega) (Below.refl _ _) (Nat.le_refl _) (by simp; omega) ?_; intro v1 w2 hN1 hB1 hg1 hat1; obtain ⟨A1, c1, rfl⟩ := Kd.N_slice hN1; have HN1 := Aside0.mk (Kd.N_take (m := 0) hN1 (Nat.zero_le _)); have HB1 := Aside0.mk hB1; clear hN1 hB1 hg1 hat1)
  go_ret
  exact ⟨_, rfl, HN1.out, HB1.out⟩
set_option maxHeartbeats 2000000 in
set_option maxRecDepth 100000 in
theorem concat_calls (b : Nat) (A1 : Option Addr) (c1 : Nat) (D : List S30) (A2 : Option Addr) (c2 : Nat) (G : List S30) (ok : Nat → Prop) (w : World) (h1 : w.cell? ⟨b, 0, none⟩ = some (.slice A1 D.length c1)) (h2 : w.cell? ⟨b, 1, none⟩ = some (.slice A2 G.length c2))
  (hD : Kd.F k30 w ok A1 D.length D) (hG : Kd.F k30 w ok A2 G.length G) (hl : D.length + G.length ≤ 3000000) :
  Calls Try.prog 39 #[.slice (some ⟨b, 0, none⟩) 2 2] w fun e w' => ∃ v : Value, e = .returned v ∧ Kd.N k30 30 w' w.heap.size (fun k => (ok k ∧ k < w.heap.size) ∨ w.heap.size ≤ k) v (D ++ G) ∧ Below w.heap.size w w' := by
 have HD := Aside0.mk (Kd.F_bound hD)
 have HG := Aside0.mk (Kd.F_bound hG)
 have H1 := Aside0.mk h1
 have H2 := Aside0.mk h2
 clear hD hG
 have q1 : (0 : Int) ≤ (D.length : Int) := Int.natCast_nonneg _
 have q2 : (0 : Int) ≤ (D.length : Int) + (G.length : Int) := by omega
 have hgr := grow_calls (D.length + G.length) hl w
 rw [Int.natCast_add] at hgr
 have HGR := Aside0.mk hgr
 clear hgr
 go_enter Try.func39, Try.ntmps39
 go_wp2_with fail
 refine wp_loop_rounds 3 ?_
 rw [rounds_succ]
 go_wp2_with fail
 rw [rounds_succ]
 go_wp2_with fail
 rw [rounds_succ]
 go_wp2_with fail
 go_at_call 51
 refine HGR.out.mono ?_
 rintro e w1 ⟨v, rfl, hN, hb⟩
 clear HGR
 have HN := Aside0.mk (Kd.N_mono (ok' := fun k => (ok k ∧ k < w.heap.size) ∨ w.heap.size ≤ k) hN (fun k hk => .inr hk))
 have HB := Aside0.mk hb
 replace HD := Aside0.mk (Kd.F_below HD.out hb)
 replace HG := Aside0.mk (Kd.F_below HG.out hb)
 replace h1 := (hb.cell (World.block_lt_of_cell? _ _ H1.out)).trans H1.out
 replace h2 := (hb.cell (World.block_lt_of_cell? _ _ H2.out)).trans H2.out
 have H1b := Aside0.mk (World.block_lt_of_cell? _ _ H1.out)
 have H1c := Aside0.mk h1
 have H2c := Aside0.mk h2
 clear hN hb H1 H2
 go_wp2_with fail
 refine wp_loop_rounds 3 ?_
 rw [rounds_succ]
 go_wp2_with ((with_reducible refine gate_builtin (b := .append) (xs := #[.tmp 31, .tmp 32]) rfl ?_); at_builtin; refine Kd.N_append_rows k30 (w0 := w) w.heap.size rfl (.tmp 31) (.tmp 32) 23 30 (.agg #[(.int .u8 0), (.int .i64 0), (.slice none 0 0), (.slice none 0 0), (.slice none 0 0)]) 88 rfl Try.underlying23 info30 rfl (by decide) (by omega) v [] D A1 D.length c1 (fun k => (ok k ∧ k < w.heap.size) ∨ w.heap.size ≤ k) (fun k => ok k ∧ k < w.heap.size) rfl rfl HN.out HD.out (fun k hk => ⟨.inl hk, fun e_ => by have := Kd.N_base HN.out k e_.symm; omega⟩) (fun k hk => .inr (Nat.le_trans HB.out.size hk)) HB.out HB.out.size (by (try simp only [List.length_nil]); omega) ?_; intro v1 w2 ho hB1 hg hat; have Ao := Aside0.mk ho; have AB := Aside0.mk hB1; have Ag := Aside0.mk hg; clear ho hB1 hg hat)
 have hne : some b ≠ v.ownBlock := fun e_ => by
  have h1_ := Kd.N_base HN.out b e_.symm
  have h2_ := H1b.out
  omega
 have HG2 := Aside0.mk (Kd.F_grown HG.out Ag.out (fun k hk e_ => by
  have h1_ := Kd.N_base HN.out k e_.symm
  omega))
 have h2' : w2.cell? ⟨b, 1, none⟩ = some (.slice A2 G.length c2) := by
  have h_ := Ag.out.block b (World.block_lt_of_cell? w1 _ H2c.out) hne
  have h3_ := H2c.out
  simp only [World.cell?, h_] at h3_ ⊢
  exact h3_
 have hn2 := Ao.out
 rw [List.nil_append] at hn2
 have HN2 := Aside0.mk hn2
 have HB2 := Aside0.mk AB.out
 clear Ao AB Ag hne h1 h2 hn2
 replace HN := HN2
 replace HB := HB2
 replace HG := HG2
 clear HN2 HB2 HG2
 rw [rounds_succ]
 go_wp2_with ((with_reducible refine gate_builtin (b := .append) (xs := #[.tmp 31, .tmp 32]) rfl ?_); at_builtin; refine Kd.N_append_rows k30 (w0 := w) w.heap.size rfl (.tmp 31) (.tmp 32) 23 30 (.agg #[(.int .u8 0), (.int .i64 0), (.slice none 0 0), (.slice none 0 0), (.slice none 0 0)]) 88 rfl Try.underlying23 info30 rfl (by decide) (by omega) v1 D G A2 G.length c2 (fun k => (ok k ∧ k < w.heap.size) ∨ w.heap.size ≤ k) (fun k => ok k ∧ k < w.heap.size) rfl rfl HN.out HG.out (fun k hk => ⟨.inl hk, fun e_ => by have := Kd.N_base HN.out k e_.symm; omega⟩) (fun k hk => .inr (Nat.le_trans HB.out.size hk)) HB.out HB.out.size (by (try simp only [List.length_nil]); omega) ?_; intro v2 w3 ho hB1 hg hat; have HB2 := Aside0.mk hB1; have HN2 := Aside0.mk ho; clear ho hB1 hg hat)
 rw [rounds_succ]
 go_wp2_with fail
 go_ret
 exact ⟨_, rfl, HN2.out, HB2.out⟩
end Go.Proofs.Ytmjeoknamoegpaa.P
namespace Go.Proofs.Ytmjeoknamoegpaa.P
open Go.RowKit Go.Proofs.YtmjeoknamoegpaaW.PrintWords Go.Proofs.YtmjeoknamoegpaaW.PrintLast Go.Proofs.YtmjeoknamoegpaaW.PrintMore
set_option linter.unusedVariables false
set_option linter.unusedSimpArgs false
/-- Behind k rounds: the elements below k have rows of their own (okj), the others are as they came. -/
def CopyInv (w W : World) (v : Value) (l : List S30) (k : Nat) : Prop :=
 Below w.heap.size w W ∧ ∃ (rows : List (List Value)) (okj : Nat → Nat → Prop), rows.length = l.length ∧ (Kd.raw 5).R 30 W w.heap.size (fun _ => True) v rows ∧ (∀ i j b, okj i b → okj j b → i = j) ∧
  (∀ j b, okj j b → w.heap.size ≤ b ∧ b < W.heap.size ∧ some b ≠ v.ownBlock) ∧ (∀ j x c, j < k → l[j]? = some x → rows[j]? = some c → k30.M W w.heap.size (okj j) x c) ∧
  ∀ j x c, k ≤ j → l[j]? = some x → rows[j]? = some c → Kd.FK k30 W (fun b => some b ≠ v.ownBlock) x c
theorem CopyInv.start {w W : World} {v : Value} {l : List S30} {ok : Nat → Prop} (hN : Kd.N k30 30 W w.heap.size ok v l) (hb : Below w.heap.size w W) : CopyInv w W v l 0 := by
 obtain ⟨_, rows, hl, hR, hf⟩ := hN
 exact ⟨hb, rows, fun _ _ => False, hl, Kd.raw_any hR, fun _ _ _ h => h.elim, fun _ _ h => h.elim, fun j x c hj => absurd hj (by omega), fun j x c _ hx hc => Kd.FK_mono (hf j x c hx hc) (fun b hb => hb.2)⟩
theorem CopyInv.stop {w W : World} {v : Value} {l : List S30} (h : CopyInv w W v l l.length) : Kd.S k30 30 W w.heap.size (fun _ => True) v l ∧ Below w.heap.size w W := by
 obtain ⟨hb, rows, okj, hl, hR, hap, hok, hM, _⟩ := h
 obtain ⟨_, inner, ho, hr⟩ := hR
 have hsz : inner.length = l.length * k30.sz := by rw [hr.1, hl]; rfl
 obtain ⟨f, hf⟩ := Kd.reps_tag (d := k30) (w := W) (base := w.heap.size) (ok := fun b => True ∧ some b ≠ v.ownBlock) (xs := l) (inner := inner) okj hap (fun j b hj => ⟨trivial, (hok j b hj).2.2⟩) hsz (fun j x hx => by
  have hj : j < rows.length := by rw [hl]; exact (List.getElem?_eq_some_iff.1 hx).1
  have h1 := hr.2 j _ (List.getElem?_eq_getElem hj)
  have h2 := hM j x _ (by rw [← hl]; exact hj) hx (List.getElem?_eq_getElem hj)
  have h3 : (inner.drop (j * 5)).take 5 = rows[j] := h1.1
  show k30.M W w.heap.size (okj j) x ((inner.drop (j * 5)).take 5)
  rw [h3]; exact h2)
 refine ⟨⟨f, fun _ _ => trivial, inner, ?_, hf⟩, hb⟩
 rw [List.length_zipIdx, ← hl]; exact ho
set_option maxHeartbeats 8000000 in
set_option maxRecDepth 100000 in
theorem copyO_calls (A : Option Addr) (c : Nat) (l : List S30) (w : World) (hC : Kd.C k30 w A l.length l) (hc : l.length ≤ c) (hl : l.length ≤ 3000000) (hs : ∀ x ∈ l, x.f2.length ≤ 1000000 ∧ x.f3.length ≤ 1000000 ∧ x.f4.length ≤ 1000000) :
  Calls Try.prog 40 #[.slice A l.length c] w fun e w' => ∃ v : Value, e = .returned v ∧ Kd.S k30 30 w' w.heap.size (fun _ => True) v l ∧ Below w.heap.size w w' := by
 have hV : Kd.V k30 30 w w.heap.size (fun k => k < w.heap.size) (.slice A l.length c) l := Kd.V_mk hc (Kd.C_F k30_heap hC)
 have HV := Aside0.mk hV
 have HSM := Aside0.mk hs
 clear hV hC hs
 go_enter Try.func40, Try.ntmps40
 go_wp2_with fail
 go_at_call 48
 refine (api_Op_48.calls _ A c l l w HV.out (clone_eq l (by omega))).mono ?_
 rintro e w1 ⟨v, rfl, hN, hb⟩
 have HI := Aside0.mk (CopyInv.start hN hb)
 obtain ⟨Av, cv, rfl⟩ := Kd.N_slice hN
 clear hN hb HV
 go_wp2_with fail
 go_loopw [9] (fun i wr => ∃ k : Nat, k ≤ l.length ∧ i = .int .i64 k ∧ Aside0 (CopyInv w wr (.slice Av l.length cv) l k)) (fun i _ => l.length - (intOf i).toNat)
 case atStart => exact ⟨0, Nat.zero_le _, rfl, HI⟩
 case round =>
  clear HI
  obtain ⟨k, hk, rfl, HI⟩ := hrel
  by_cases hlt : k < l.length
  ·obtain ⟨hB, rows, okj, hrl, hR, hap, hok, hM, hF⟩ := HI.out
   obtain ⟨g, cap, hv, hgb, hgl, cellsG, hcG⟩ := Kd.R_form hR (by omega)
   injection hv with hA_ hlen_ hc_
   subst hA_; subst hc_
   clear hlen_
   obtain ⟨x, hx⟩ : ∃ x, l[k]? = some x := ⟨_, List.getElem?_eq_getElem hlt⟩
   obtain ⟨cw, hcw⟩ : ∃ c, rows[k]? = some c := ⟨_, List.getElem?_eq_getElem (by omega)⟩
   obtain ⟨A2, c2, A3, c3, A4, c4, rfl, l2, f2, l3, f3, l4, f4⟩ := k30_openF (hF k x cw (Nat.le_refl _) hx hcw)
   obtain ⟨cx, hcl, hMx, hcc, hfr⟩ := Kd.R_elem hR [] (k : Int) (by omega) (by omega)
   have hgD : rows.getD (k : Int).toNat [] = _ := (by rw [Int.toNat_natCast, List.getD_eq_getElem?_getD, hcw]; rfl : rows.getD (k : Int).toNat [] = [.int .u8 x.f0, .int .i64 x.f1, .slice A2 x.f2.length c2, .slice A3 x.f3.length c3, .slice A4 x.f4.length c4])
   rw [hgD] at hMx
   obtain rfl := hMx.1
   have E2 : Aside0 (cellsG[k * 5 + 2]? = some (.slice A2 x.f2.length c2)) := ⟨(blk_cell hcG (k * 5 + 2)).symm.trans (hcc 2 _ rfl)⟩
   have E3 : Aside0 (cellsG[k * 5 + 3]? = some (.slice A3 x.f3.length c3)) := ⟨(blk_cell hcG (k * 5 + 3)).symm.trans (hcc 3 _ rfl)⟩
   have E4 : Aside0 (cellsG[k * 5 + 4]? = some (.slice A4 x.f4.length c4)) := ⟨(blk_cell hcG (k * 5 + 4)).symm.trans (hcc 4 _ rfl)⟩
   have BG := Aside0.mk hcG
   have F2 := Aside0.mk f2
   have F3 := Aside0.mk f3
   have F4 := Aside0.mk f4
   have HR := Aside0.mk hR
   have HCC := Aside0.mk hcc
   have HROW := Aside0.mk hcw
   have HX := Aside0.mk hx
   have HAP := Aside0.mk hap
   have HOK := Aside0.mk hok
   have HM := Aside0.mk hM
   have HF := Aside0.mk hF
   have HB := Aside0.mk hB
   have HRL := Aside0.mk hrl
   have HGL := Aside0.mk hgl
   obtain ⟨hx2, hx3, hx4⟩ := HSM.out x (List.mem_of_getElem? hx)
   have q1 : (k : Int) < (l.length : Int) := by omega
   have q0 : (0 : Int) ≤ (k : Int) := Int.natCast_nonneg k
   clear hB hR hap hok hM hF hcG f2 f3 f4 hcc hcw hx hgD hfr hcl hMx hrl hgl
   go_wp2_with fail
   refine start_ (n := 33) (S := fun w' => w'.cell? ⟨g, k * 5 + 2, none⟩ = some (.slice A2 x.f2.length c2) ∧ w'.cell? ⟨g, k * 5 + 3, none⟩ = some (.slice A3 x.f3.length c3) ∧ w'.cell? ⟨g, k * 5 + 4, none⟩ = some (.slice A4 x.f4.length c4)) (ds := [26, 29, 32]) #[false, false, false, false, false, false, false, false, false, false, false, false, false, false, false, false, false, false, false, false, false, false, false, false, false, false, false, false, false, false, false, false, false] (by kernel_rfl) rfl rfl ⟨((blk_cell (w := wr.drew) BG.out (k * 5 + 2)).trans E2.out), ((blk_cell (w := wr.drew) BG.out (k * 5 + 3)).trans E3.out), ((blk_cell (w := wr.drew) BG.out (k * 5 + 4)).trans E4.out)⟩ (fun hHeld => ?_)
   have hb := below_drew (Below.refl wr.heap.size wr)
   generalize wr.drew = w2 at hb hHeld ⊢
   replace BG := Aside0.mk (blk_below BG.out hb)
   replace F2 := Aside0.mk (Kd.F_below F2.out hb)
   replace F3 := Aside0.mk (Kd.F_below F3.out hb)
   replace F4 := Aside0.mk (Kd.F_below F4.out hb)
   have HB2 := Aside0.mk hb
   clear hb
   refine pure_ (i := 0) (N := some 12) (v := ?_) (a' := ?_) #[true, false, false, false, false, false, false, false, false, false, false, false, false, false, false, false, false, false, false, false, false, false, false, false, false, false, false, false, false, false, false, false, false] rfl rfl (any_of rfl (by kernel_rfl)) (fun _ _ _ h => h) (Or.inl ⟨by rfl, ?_⟩) ?_ ?_
   rotate_left
   ·intro w'
    go_simp
    with_reducible rfl
   rotate_left
   ·simp only [Act.put, List.setIfInBounds_toArray, List.set_cons_zero, List.set_cons_succ, i64_w, i32_w]
    rfl
   refine pure_ (i := 1) (N := some 13) (v := ?_) (a' := ?_) #[true, true, false, false, false, false, false, false, false, false, false, false, false, false, false, false, false, false, false, false, false, false, false, false, false, false, false, false, false, false, false, false, false] rfl rfl (any_of rfl (by kernel_rfl)) (fun _ _ _ h => h) (Or.inl ⟨by rfl, ?_⟩) ?_ ?_
   rotate_left
   ·intro w'
    go_simp
    with_reducible rfl
   rotate_left
   ·simp only [Act.put, List.setIfInBounds_toArray, List.set_cons_zero, List.set_cons_succ, i64_w, i32_w]
    rfl
   refine pure_ (i := 2) (N := some 14) (v := ?_) (a' := ?_) #[true, true, true, false, false, false, false, false, false, false, false, false, false, false, false, false, false, false, false, false, false, false, false, false, false, false, false, false, false, false, false, false, false] rfl rfl (any_of rfl (by kernel_rfl)) (fun _ _ _ h => h) (Or.inl ⟨by rfl, ?_⟩) ?_ ?_
   rotate_left
   ·intro w'
    go_simp
    with_reducible rfl
   rotate_left
   ·simp only [Act.put, List.setIfInBounds_toArray, List.set_cons_zero, List.set_cons_succ, i64_w, i32_w]
    rfl
   refine pure_ (i := 3) (N := some 15) (v := ?_) (a' := ?_) #[true, true, true, true, false, false, false, false, false, false, false, false, false, false, false, false, false, false, false, false, false, false, false, false, false, false, false, false, false, false, false, false, false] rfl rfl (any_of rfl (by kernel_rfl)) (fun _ _ _ h => h) (Or.inl ⟨by rfl, ?_⟩) ?_ ?_
   rotate_left
   ·intro w'
    go_simp
    with_reducible rfl
   rotate_left
   ·simp only [Act.put, List.setIfInBounds_toArray, List.set_cons_zero, List.set_cons_succ, i64_w, i32_w]
    rfl
   refine pure_ (i := 4) (N := some 16) (v := ?_) (a' := ?_) #[true, true, true, true, true, false, false, false, false, false, false, false, false, false, false, false, false, false, false, false, false, false, false, false, false, false, false, false, false, false, false, false, false] rfl rfl (any_of rfl (by kernel_rfl)) (fun _ _ _ h => h) (Or.inl ⟨by rfl, ?_⟩) ?_ ?_
   rotate_left
   ·intro w'
    go_simp
    with_reducible rfl
   rotate_left
   ·simp only [Act.put, List.setIfInBounds_toArray, List.set_cons_zero, List.set_cons_succ, i64_w, i32_w]
    rfl
   refine pure_ (i := 5) (N := some 17) (v := ?_) (a' := ?_) #[true, true, true, true, true, true, false, false, false, false, false, false, false, false, false, false, false, false, false, false, false, false, false, false, false, false, false, false, false, false, false, false, false] rfl rfl (any_of rfl (by kernel_rfl)) (fun _ _ _ h => h) (Or.inl ⟨by rfl, ?_⟩) ?_ ?_
   rotate_left
   ·intro w'
    go_simp
    with_reducible rfl
   rotate_left
   ·simp only [Act.put, List.setIfInBounds_toArray, List.set_cons_zero, List.set_cons_succ, i64_w, i32_w]
    rfl
   refine pure_ (i := 6) (N := some 18) (v := ?_) (a' := ?_) #[true, true, true, true, true, true, true, false, false, false, false, false, false, false, false, false, false, false, false, false, false, false, false, false, false, false, false, false, false, false, false, false, false] rfl rfl (any_of rfl (by kernel_rfl)) (fun _ _ _ h => h) (Or.inl ⟨by rfl, ?_⟩) ?_ ?_
   rotate_left
   ·intro w'
    go_simp
    with_reducible rfl
   rotate_left
   ·simp only [Act.put, List.setIfInBounds_toArray, List.set_cons_zero, List.set_cons_succ, i64_w, i32_w]
    rfl
   refine pure_ (i := 7) (N := some 19) (v := ?_) (a' := ?_) #[true, true, true, true, true, true, true, true, false, false, false, false, false, false, false, false, false, false, false, false, false, false, false, false, false, false, false, false, false, false, false, false, false] rfl rfl (any_of rfl (by kernel_rfl)) (fun _ _ _ h => h) (Or.inl ⟨by rfl, ?_⟩) ?_ ?_
   rotate_left
   ·intro w'
    go_simp
    with_reducible rfl
   rotate_left
   ·simp only [Act.put, List.setIfInBounds_toArray, List.set_cons_zero, List.set_cons_succ, i64_w, i32_w]
    rfl
   refine pure_ (i := 8) (N := some 20) (v := ?_) (a' := ?_) #[true, true, true, true, true, true, true, true, true, false, false, false, false, false, false, false, false, false, false, false, false, false, false, false, false, false, false, false, false, false, false, false, false] rfl rfl (any_of rfl (by kernel_rfl)) (fun _ _ _ h => h) (Or.inl ⟨by rfl, ?_⟩) ?_ ?_
   rotate_left
   ·intro w'
    go_simp
    with_reducible rfl
   rotate_left
   ·simp only [Act.put, List.setIfInBounds_toArray, List.set_cons_zero, List.set_cons_succ, i64_w, i32_w]
    rfl
   refine pure_ (i := 9) (N := some 21) (v := ?_) (a' := ?_) #[true, true, true, true, true, true, true, true, true, true, false, false, false, false, false, false, false, false, false, false, false, false, false, false, false, false, false, false, false, false, false, false, false] rfl rfl (any_of rfl (by kernel_rfl)) (fun _ _ _ h => h) (Or.inl ⟨by rfl, ?_⟩) ?_ ?_
   rotate_left
   ·intro w'
    go_simp
    with_reducible rfl
   rotate_left
   ·simp only [Act.put, List.setIfInBounds_toArray, List.set_cons_zero, List.set_cons_succ, i64_w, i32_w]
    rfl
   refine pure_ (i := 12) (N := some 24) (v := ?_) (a' := ?_) #[true, true, true, true, true, true, true, true, true, true, false, false, true, false, false, false, false, false, false, false, false, false, false, false, false, false, false, false, false, false, false, false, false] rfl rfl (any_of rfl (by kernel_rfl)) (fun _ _ _ h => h) (Or.inl ⟨by rfl, ?_⟩) ?_ ?_
   rotate_left
   ·intro w'
    go_simp
    with_reducible rfl
   rotate_left
   ·simp only [Act.put, List.setIfInBounds_toArray, List.set_cons_zero, List.set_cons_succ, i64_w, i32_w]
    rfl
   refine pure_ (i := 13) (N := some 25) (v := ?_) (a' := ?_) #[true, true, true, true, true, true, true, true, true, true, false, false, true, true, false, false, false, false, false, false, false, false, false, false, false, false, false, false, false, false, false, false, false] rfl rfl (any_of rfl (by kernel_rfl)) (fun _ _ _ h => h) (Or.inl ⟨by rfl, ?_⟩) ?_ ?_
   rotate_left
   ·intro w'
    go_simp
    with_reducible rfl
   rotate_left
   ·simp only [Act.put, List.setIfInBounds_toArray, List.set_cons_zero, List.set_cons_succ, i64_w, i32_w]
    rfl
   refine pure_ (i := 14) (N := some 26) (v := ?_) (a' := ?_) #[true, true, true, true, true, true, true, true, true, true, false, false, true, true, true, false, false, false, false, false, false, false, false, false, false, false, false, false, false, false, false, false, false] rfl rfl (any_of rfl (by kernel_rfl)) (fun _ _ _ h => h) (Or.inl ⟨by rfl, ?_⟩) ?_ ?_
   rotate_left
   ·intro w'
    go_simp
    with_reducible rfl
   rotate_left
   ·simp only [Act.put, List.setIfInBounds_toArray, List.set_cons_zero, List.set_cons_succ, i64_w, i32_w]
    rfl
   refine pure_ (i := 15) (N := some 27) (v := ?_) (a' := ?_) #[true, true, true, true, true, true, true, true, true, true, false, false, true, true, true, true, false, false, false, false, false, false, false, false, false, false, false, false, false, false, false, false, false] rfl rfl (any_of rfl (by kernel_rfl)) (fun _ _ _ h => h) (Or.inl ⟨by rfl, ?_⟩) ?_ ?_
   rotate_left
   ·intro w'
    go_simp
    with_reducible rfl
   rotate_left
   ·simp only [Act.put, List.setIfInBounds_toArray, List.set_cons_zero, List.set_cons_succ, i64_w, i32_w]
    rfl
   refine pure_ (i := 18) (N := some 30) (v := ?_) (a' := ?_) #[true, true, true, true, true, true, true, true, true, true, false, false, true, true, true, true, false, false, true, false, false, false, false, false, false, false, false, false, false, false, false, false, false] rfl rfl (any_of rfl (by kernel_rfl)) (fun _ _ _ h => h) (Or.inl ⟨by rfl, ?_⟩) ?_ ?_
   rotate_left
   ·intro w'
    go_simp
    with_reducible rfl
   rotate_left
   ·simp only [Act.put, List.setIfInBounds_toArray, List.set_cons_zero, List.set_cons_succ, i64_w, i32_w]
    rfl
   refine pure_ (i := 19) (N := some 31) (v := ?_) (a' := ?_) #[true, true, true, true, true, true, true, true, true, true, false, false, true, true, true, true, false, false, true, true, false, false, false, false, false, false, false, false, false, false, false, false, false] rfl rfl (any_of rfl (by kernel_rfl)) (fun _ _ _ h => h) (Or.inl ⟨by rfl, ?_⟩) ?_ ?_
   rotate_left
   ·intro w'
    go_simp
    with_reducible rfl
   rotate_left
   ·simp only [Act.put, List.setIfInBounds_toArray, List.set_cons_zero, List.set_cons_succ, i64_w, i32_w]
    rfl
   refine pure_ (i := 20) (N := some 32) (v := ?_) (a' := ?_) #[true, true, true, true, true, true, true, true, true, true, false, false, true, true, true, true, false, false, true, true, true, false, false, false, false, false, false, false, false, false, false, false, false] rfl rfl (any_of rfl (by kernel_rfl)) (fun _ _ _ h => h) (Or.inl ⟨by rfl, ?_⟩) ?_ ?_
   rotate_left
   ·intro w'
    go_simp
    with_reducible rfl
   rotate_left
   ·simp only [Act.put, List.setIfInBounds_toArray, List.set_cons_zero, List.set_cons_succ, i64_w, i32_w]
    rfl
   refine pure_ (i := 21) (N := some 33) (v := ?_) (a' := ?_) #[true, true, true, true, true, true, true, true, true, true, false, false, true, true, true, true, false, false, true, true, true, true, false, false, false, false, false, false, false, false, false, false, false] rfl rfl (any_of rfl (by kernel_rfl)) (fun _ _ _ h => h) (Or.inl ⟨by rfl, ?_⟩) ?_ ?_
   rotate_left
   ·intro w'
    go_simp
    with_reducible rfl
   rotate_left
   ·simp only [Act.put, List.setIfInBounds_toArray, List.set_cons_zero, List.set_cons_succ, i64_w, i32_w]
    rfl
   refine take_ (i := 10) (N := some 22) (v := ?_) (a' := ?_) #[true, true, true, true, true, true, true, true, true, true, true, false, true, true, true, true, false, false, true, true, true, true, false, false, false, false, false, false, false, false, false, false, false] rfl rfl (take_of rfl (by kernel_rfl)) (fun _ _ _ h => h) (Or.inl ⟨by rfl, ?_⟩) hHeld ?_ ?_
   rotate_left
   ·rintro w' ⟨s0, s1, s2⟩
    go_simp
    with_reducible rfl
   rotate_left
   ·simp only [Act.put, List.setIfInBounds_toArray, List.set_cons_zero, List.set_cons_succ, i64_w, i32_w]
    rfl
   refine take_ (i := 16) (N := some 28) (v := ?_) (a' := ?_) #[true, true, true, true, true, true, true, true, true, true, true, false, true, true, true, true, true, false, true, true, true, true, false, false, false, false, false, false, false, false, false, false, false] rfl rfl (take_of rfl (by kernel_rfl)) (fun _ _ _ h => h) (Or.inl ⟨by rfl, ?_⟩) hHeld ?_ ?_
   rotate_left
   ·rintro w' ⟨s0, s1, s2⟩
    go_simp
    with_reducible rfl
   rotate_left
   ·simp only [Act.put, List.setIfInBounds_toArray, List.set_cons_zero, List.set_cons_succ, i64_w, i32_w]
    rfl
   refine take_ (i := 22) (N := some 34) (v := ?_) (a' := ?_) #[true, true, true, true, true, true, true, true, true, true, true, false, true, true, true, true, true, false, true, true, true, true, true, false, false, false, false, false, false, false, false, false, false] rfl rfl (take_of rfl (by kernel_rfl)) (fun _ _ _ h => h) (Or.inl ⟨by rfl, ?_⟩) hHeld ?_ ?_
   rotate_left
   ·rintro w' ⟨s0, s1, s2⟩
    go_simp
    with_reducible rfl
   rotate_left
   ·simp only [Act.put, List.setIfInBounds_toArray, List.set_cons_zero, List.set_cons_succ, i64_w, i32_w]
    rfl
   refine one_ (i := 11) (N := some 23) #[true, true, true, true, true, true, true, true, true, true, true, true, true, true, true, true, true, false, true, true, true, true, true, false, false, false, false, false, false, false, false, false, false] rfl rfl (one_of rfl (by kernel_rfl)) (by decide) (fun K hK => ?_)
   refine goes_ Try.func37 (by kernel_rfl) rfl #[.slice A2 x.f2.length c2] (by rfl) rfl rfl (by (try simp only [List.map_toArray, List.map_cons, List.map_nil]); first | done | rfl) ?_
   refine (slices_Clone_int32_int32.calls A2 c2 x.f2 x.f2 w2 (Kd.F_now F2.out) l2 (cloneI_eq x.f2 hx2)).mono ?_
   rintro e w3 ⟨v2, rfl, hv, hb⟩
   have V2 := Aside0.mk hv
   replace BG := Aside0.mk (blk_below BG.out hb)
   replace F3 := Aside0.mk (Kd.F_below F3.out hb)
   replace F4 := Aside0.mk (Kd.F_below F4.out hb)
   have HB3 := Aside0.mk (below_step HB2.out hb)
   clear hv hb
   refine ⟨_, rfl, ?_⟩
   refine hK.out _ _ ⟨((blk_cell BG.out (k * 5 + 2)).trans E2.out), ((blk_cell BG.out (k * 5 + 3)).trans E3.out), ((blk_cell BG.out (k * 5 + 4)).trans E4.out)⟩ (fun hHeld => ?_)
   clear hK K
   refine norm_ (a' := ?_) ?_ ?_
   rotate_left
   ·show Act.put _ (some 23) _ = _
    simp only [Act.put, List.setIfInBounds_toArray, List.set_cons_zero, List.set_cons_succ, i64_w, i32_w]
    rfl
   refine one_ (i := 17) (N := some 29) #[true, true, true, true, true, true, true, true, true, true, true, true, true, true, true, true, true, true, true, true, true, true, true, false, false, false, false, false, false, false, false, false, false] rfl rfl (one_of rfl (by kernel_rfl)) (by decide) (fun K hK => ?_)
   refine goes_ Try.func38 (by kernel_rfl) rfl #[.slice A3 x.f3.length c3] (by rfl) rfl rfl (by (try simp only [List.map_toArray, List.map_cons, List.map_nil]); first | done | rfl) ?_
   refine (attrs_Copy.calls A3 c3 x.f3 x.f3 w3 (Kd.F_now F3.out) l3 (copyA_eq x.f3 hx3)).mono ?_
   rintro e w4 ⟨v3, rfl, hv, hb⟩
   have V3 := Aside0.mk hv
   replace BG := Aside0.mk (blk_below BG.out hb)
   replace F4 := Aside0.mk (Kd.F_below F4.out hb)
   have V2b := Aside0.mk (Kd.R_below (Kd.R_bound V2.out) hb)
   have HB4 := Aside0.mk (below_step HB3.out hb)
   have hz4 := Aside0.mk hb.size
   clear hv hb
   refine ⟨_, rfl, ?_⟩
   refine hK.out _ _ ⟨((blk_cell BG.out (k * 5 + 2)).trans E2.out), ((blk_cell BG.out (k * 5 + 3)).trans E3.out), ((blk_cell BG.out (k * 5 + 4)).trans E4.out)⟩ (fun hHeld => ?_)
   clear hK K
   refine norm_ (a' := ?_) ?_ ?_
   rotate_left
   ·show Act.put _ (some 29) _ = _
    simp only [Act.put, List.setIfInBounds_toArray, List.set_cons_zero, List.set_cons_succ, i64_w, i32_w]
    rfl
   refine one_ (i := 23) (N := some 35) #[true, true, true, true, true, true, true, true, true, true, true, true, true, true, true, true, true, true, true, true, true, true, true, true, false, false, false, false, false, false, false, false, false] rfl rfl (one_of rfl (by kernel_rfl)) (by decide) (fun K hK => ?_)
   refine goes_ Try.func36 (by kernel_rfl) rfl #[.slice A4 x.f4.length c4] (by rfl) rfl rfl (by (try simp only [List.map_toArray, List.map_cons, List.map_nil]); first | done | rfl) ?_
   refine (patch_Copy.calls A4 c4 x.f4 x.f4 w4 (Kd.F_now F4.out) l4 (copyC_eq x.f4 hx4)).mono ?_
   rintro e w5 ⟨v4, rfl, hv, hb⟩
   have V4 := Aside0.mk (Kd.R_bound hv)
   replace BG := Aside0.mk (blk_below BG.out hb)
   have V2c := Aside0.mk (Kd.R_below V2b.out hb)
   have V3c := Aside0.mk (Kd.R_below (Kd.R_bound V3.out) hb)
   have HB5 := Aside0.mk (below_step HB4.out hb)
   have hz5 := Aside0.mk hb.size
   clear hv hb
   refine ⟨_, rfl, ?_⟩
   refine hK.out _ _ ⟨((blk_cell BG.out (k * 5 + 2)).trans E2.out), ((blk_cell BG.out (k * 5 + 3)).trans E3.out), ((blk_cell BG.out (k * 5 + 4)).trans E4.out)⟩ (fun hHeld => ?_)
   clear hK K
   refine norm_ (a' := ?_) ?_ ?_
   rotate_left
   ·show Act.put _ (some 35) _ = _
    simp only [Act.put, List.setIfInBounds_toArray, List.set_cons_zero, List.set_cons_succ, i64_w, i32_w]
    rfl
   obtain ⟨B2, d2, rfl⟩ := Kd.R_slice V2c.out
   obtain ⟨B3, d3, rfl⟩ := Kd.R_slice V3c.out
   obtain ⟨B4, d4, rfl⟩ := Kd.R_slice V4.out
   have m2 := (blk_cell BG.out (k * 5 + 2)).trans E2.out
   have m3 := (blk_cell BG.out (k * 5 + 3)).trans E3.out
   have m4 := (blk_cell BG.out (k * 5 + 4)).trans E4.out
   have n2 := blk_frozen BG.out (k * 5 + 2)
   have n3 := blk_frozen BG.out (k * 5 + 3)
   have n4 := blk_frozen BG.out (k * 5 + 4)
   refine pure_ (i := 24) (N := some 36) (v := ?_) (a' := ?_) #[true, true, true, true, true, true, true, true, true, true, true, true, true, true, true, true, true, true, true, true, true, true, true, true, true, false, false, false, false, false, false, false, false] rfl rfl (any_of rfl (by kernel_rfl)) (fun _ _ _ h => h) (Or.inl ⟨by rfl, ?_⟩) ?_ ?_
   rotate_left
   ·intro w'
    go_simp
    with_reducible rfl
   rotate_left
   ·simp only [Act.put, List.setIfInBounds_toArray, List.set_cons_zero, List.set_cons_succ, i64_w, i32_w]
    rfl
   refine pure_ (i := 25) (N := some 37) (v := ?_) (a' := ?_) #[true, true, true, true, true, true, true, true, true, true, true, true, true, true, true, true, true, true, true, true, true, true, true, true, true, true, false, false, false, false, false, false, false] rfl rfl (any_of rfl (by kernel_rfl)) (fun _ _ _ h => h) (Or.inl ⟨by rfl, ?_⟩) ?_ ?_
   rotate_left
   ·intro w'
    go_simp
    with_reducible rfl
   rotate_left
   ·simp only [Act.put, List.setIfInBounds_toArray, List.set_cons_zero, List.set_cons_succ, i64_w, i32_w]
    rfl
   refine last_ (i := 26) (N := none) #[true, true, true, true, true, true, true, true, true, true, true, true, true, true, true, true, true, true, true, true, true, true, true, true, true, true, true, false, false, false, false, false, false] rfl rfl (one_of rfl (by kernel_rfl)) (by decide) (fun K hK => ?_)
   refine skip_ (w1 := w5.setCell ⟨g, k * 5 + 2, none⟩ (.slice B2 x.f2.length d2)) (by rfl) rfl ?_ ?_
   ·go_simp
    try rfl
   refine hK.out _ _ ?_
   clear hK K
   refine pure_ (i := 27) (N := some 38) (v := ?_) (a' := ?_) #[true, true, true, true, true, true, true, true, true, true, true, true, true, true, true, true, true, true, true, true, true, true, true, true, true, true, true, true, false, false, false, false, false] rfl rfl (any_of rfl (by kernel_rfl)) (fun _ _ _ h => h) (Or.inl ⟨by rfl, ?_⟩) ?_ ?_
   rotate_left
   ·intro w'
    go_simp
    with_reducible rfl
   rotate_left
   ·simp only [Act.put, List.setIfInBounds_toArray, List.set_cons_zero, List.set_cons_succ, i64_w, i32_w]
    rfl
   refine pure_ (i := 28) (N := some 39) (v := ?_) (a' := ?_) #[true, true, true, true, true, true, true, true, true, true, true, true, true, true, true, true, true, true, true, true, true, true, true, true, true, true, true, true, true, false, false, false, false] rfl rfl (any_of rfl (by kernel_rfl)) (fun _ _ _ h => h) (Or.inl ⟨by rfl, ?_⟩) ?_ ?_
   rotate_left
   ·intro w'
    go_simp
    with_reducible rfl
   rotate_left
   ·simp only [Act.put, List.setIfInBounds_toArray, List.set_cons_zero, List.set_cons_succ, i64_w, i32_w]
    rfl
   refine last_ (i := 29) (N := none) #[true, true, true, true, true, true, true, true, true, true, true, true, true, true, true, true, true, true, true, true, true, true, true, true, true, true, true, true, true, true, false, false, false] rfl rfl (one_of rfl (by kernel_rfl)) (by decide) (fun K hK => ?_)
   refine skip_ (w1 := (w5.setCell ⟨g, k * 5 + 2, none⟩ (.slice B2 x.f2.length d2)).setCell ⟨g, k * 5 + 3, none⟩ (.slice B3 x.f3.length d3)) (by rfl) rfl ?_ ?_
   ·go_simp
    try rfl
   refine hK.out _ _ ?_
   clear hK K
   refine pure_ (i := 30) (N := some 40) (v := ?_) (a' := ?_) #[true, true, true, true, true, true, true, true, true, true, true, true, true, true, true, true, true, true, true, true, true, true, true, true, true, true, true, true, true, true, true, false, false] rfl rfl (any_of rfl (by kernel_rfl)) (fun _ _ _ h => h) (Or.inl ⟨by rfl, ?_⟩) ?_ ?_
   rotate_left
   ·intro w'
    go_simp
    with_reducible rfl
   rotate_left
   ·simp only [Act.put, List.setIfInBounds_toArray, List.set_cons_zero, List.set_cons_succ, i64_w, i32_w]
    rfl
   refine pure_ (i := 31) (N := some 41) (v := ?_) (a' := ?_) #[true, true, true, true, true, true, true, true, true, true, true, true, true, true, true, true, true, true, true, true, true, true, true, true, true, true, true, true, true, true, true, true, false] rfl rfl (any_of rfl (by kernel_rfl)) (fun _ _ _ h => h) (Or.inl ⟨by rfl, ?_⟩) ?_ ?_
   rotate_left
   ·intro w'
    go_simp
    with_reducible rfl
   rotate_left
   ·simp only [Act.put, List.setIfInBounds_toArray, List.set_cons_zero, List.set_cons_succ, i64_w, i32_w]
    rfl
   refine last_ (i := 32) (N := none) #[true, true, true, true, true, true, true, true, true, true, true, true, true, true, true, true, true, true, true, true, true, true, true, true, true, true, true, true, true, true, true, true, true] rfl rfl (one_of rfl (by kernel_rfl)) (by decide) (fun K hK => ?_)
   refine skip_ (w1 := ((w5.setCell ⟨g, k * 5 + 2, none⟩ (.slice B2 x.f2.length d2)).setCell ⟨g, k * 5 + 3, none⟩ (.slice B3 x.f3.length d3)).setCell ⟨g, k * 5 + 4, none⟩ (.slice B4 x.f4.length d4)) (by rfl) rfl ?_ ?_
   ·go_simp
    try rfl
   refine hK.out _ _ ?_
   clear hK K
   refine done_ (done_of rfl (by kernel_rfl)) ?_
   clear m2 m3 m4 n2 n3 n4 hHeld
   have hk1 : ∀ b, b < wr.heap.size → some b ≠ (Value.slice (some ⟨g, 0, none⟩) l.length cv).ownBlock → (((w5.setCell ⟨g, k * 5 + 2, none⟩ (.slice B2 x.f2.length d2)).setCell ⟨g, k * 5 + 3, none⟩ (.slice B3 x.f3.length d3)).setCell ⟨g, k * 5 + 4, none⟩ (.slice B4 x.f4.length d4)).heap[b]? = wr.heap[b]? := by
    intro b hb hne
    have hg_ : b ≠ g := fun e_ => hne (by rw [e_]; simp [Value.ownBlock])
    rw [Below.heap_setCell _ ⟨g, k * 5 + 4, none⟩ _ b hg_, Below.heap_setCell _ ⟨g, k * 5 + 3, none⟩ _ b hg_, Below.heap_setCell _ ⟨g, k * 5 + 2, none⟩ _ b hg_]
    exact HB5.out.block b hb
   have hk2 : ∀ b, b ≠ g → (((w5.setCell ⟨g, k * 5 + 2, none⟩ (.slice B2 x.f2.length d2)).setCell ⟨g, k * 5 + 3, none⟩ (.slice B3 x.f3.length d3)).setCell ⟨g, k * 5 + 4, none⟩ (.slice B4 x.f4.length d4)).heap[b]? = w5.heap[b]? := by
    intro b hg_
    rw [Below.heap_setCell _ ⟨g, k * 5 + 4, none⟩ _ b hg_, Below.heap_setCell _ ⟨g, k * 5 + 3, none⟩ _ b hg_, Below.heap_setCell _ ⟨g, k * 5 + 2, none⟩ _ b hg_]
   have hR5 := Kd.R_below HR.out HB5.out
   obtain ⟨cx, hcl, hMx, hcc, hfr⟩ := Kd.R_elem hR5 [] (k : Int) (by omega) (by omega)
   have hgD : rows.getD (k : Int).toNat [] = _ := (by rw [Int.toNat_natCast, List.getD_eq_getElem?_getD, HROW.out]; rfl : rows.getD (k : Int).toNat [] = [.int .u8 x.f0, .int .i64 x.f1, .slice A2 x.f2.length c2, .slice A3 x.f3.length c3, .slice A4 x.f4.length c4])
   rw [hgD] at hMx
   obtain rfl := hMx.1
   have hseg := Kd.R_seg hR5 (k : Int) (by omega) (by omega) (seg := [.slice B2 x.f2.length d2, .slice B3 x.f3.length d3, .slice B4 x.f4.length d4]) (j := 2) (x' := [.int .u8 x.f0, .int .i64 x.f1, .slice B2 x.f2.length d2, .slice B3 x.f3.length d3, .slice B4 x.f4.length d4]) (okp := fun _ => False) hcl hcc (show 2 + 3 ≤ 5 from by decide) (⟨rfl, rfl, by intro u hu; simp at hu; rcases hu with rfl | rfl | rfl | rfl | rfl <;> rfl⟩) (fun _ h_ => h_.elim)
   have hz2 := HB2.out.size
   have hz3 := HB3.out.size
   have hz4' := hz4.out
   have hz5' := hz5.out
   have hzw := HB.out.size
   have hgl' := HGL.out
   have hMk : k30.M w5 w.heap.size (fun b => wr.heap.size ≤ b ∧ b < w5.heap.size) x [.int .u8 x.f0, .int .i64 x.f1, .slice B2 x.f2.length d2, .slice B3 x.f3.length d3, .slice B4 x.f4.length d4] :=
    k30_mkM _ _ _ x (Kd.R_mono (Kd.R_lower V2c.out (Nat.le_trans hzw hz2)) (fun b hb => ⟨Nat.le_trans hz2 hb.2.1, by have := hb.2.2.1; omega⟩)) (Kd.R_mono (Kd.R_lower V3c.out (Nat.le_trans hzw hz3)) (fun b hb => ⟨Nat.le_trans hz3 hb.2.1, by have := hb.2.2.1; omega⟩)) (Kd.R_mono (Kd.R_lower V4.out (Nat.le_trans hzw (by omega))) (fun b hb => ⟨by have := hb.2.1; omega, hb.2.2.1⟩))
   have hnew : CopyInv w (((w5.setCell ⟨g, k * 5 + 2, none⟩ (.slice B2 x.f2.length d2)).setCell ⟨g, k * 5 + 3, none⟩ (.slice B3 x.f3.length d3)).setCell ⟨g, k * 5 + 4, none⟩ (.slice B4 x.f4.length d4)) (.slice (some ⟨g, 0, none⟩) l.length cv) l (k + 1) := by
    have hB5 := below_step HB.out HB5.out
    refine ⟨((hB5.setCell (p := ⟨g, k * 5 + 2, none⟩) hgb _).setCell (p := ⟨g, k * 5 + 3, none⟩) hgb _).setCell (p := ⟨g, k * 5 + 4, none⟩) hgb _, rows.set k [.int .u8 x.f0, .int .i64 x.f1, .slice B2 x.f2.length d2, .slice B3 x.f3.length d3, .slice B4 x.f4.length d4], fun j b => (j ≠ k ∧ okj j b) ∨ (j = k ∧ wr.heap.size ≤ b ∧ b < w5.heap.size), by rw [List.length_set]; exact HRL.out, ?_, ?_, ?_, ?_, ?_⟩
    ·have h_ := hseg.1
     rw [Int.toNat_natCast] at h_
     exact h_
    ·intro i j b h1 h2
     rcases h1 with ⟨h1a, h1b⟩ | ⟨h1a, h1b, h1c⟩ <;> rcases h2 with ⟨h2a, h2b⟩ | ⟨h2a, h2b, h2c⟩
     ·exact HAP.out i j b h1b h2b
     ·have := (HOK.out i b h1b).2.1; omega
     ·have := (HOK.out j b h2b).2.1; omega
     ·omega
    ·intro j b h1
     have hz6 : (((w5.setCell ⟨g, k * 5 + 2, none⟩ (.slice B2 x.f2.length d2)).setCell ⟨g, k * 5 + 3, none⟩ (.slice B3 x.f3.length d3)).setCell ⟨g, k * 5 + 4, none⟩ (.slice B4 x.f4.length d4)).heap.size = w5.heap.size := by simp [World.setCell]
     rw [hz6]
     have hz51 := HB5.out.size
     rcases h1 with ⟨h1a, h1b⟩ | ⟨h1a, h1b, h1c⟩
     ·obtain ⟨o1, o2, o3⟩ := HOK.out j b h1b
      exact ⟨o1, by omega, o3⟩
     ·exact ⟨by omega, h1c, fun e_ => by simp [Value.ownBlock] at e_; omega⟩
    ·intro j y cc hj hy hcy
     by_cases hjk : j = k
     ·subst hjk
      rw [List.getElem?_set_self (by rw [HRL.out]; exact hlt)] at hcy
      obtain rfl := Option.some.inj hcy
      have hyx : y = x := Option.some.inj (hy.symm.trans HX.out)
      subst hyx
      exact k30.M_mono (fun b hb => .inr ⟨rfl, hb⟩) (Kd.M_step hMk (fun b hb _ => hk2 b (fun e_ => by omega)))
     ·rw [List.getElem?_set_ne (Ne.symm hjk)] at hcy
      exact k30.M_mono (fun b hb => .inl ⟨hjk, hb⟩) (Kd.M_step (HM.out j y cc (by omega) hy hcy) (fun b hb hlt2 => hk1 b hlt2 (HOK.out j b hb).2.2))
    ·intro j y cc hj hy hcy
     rw [List.getElem?_set_ne (by omega)] at hcy
     exact Kd.FK_step (HF.out j y cc (by omega) hy hcy) (fun b hb hlt2 => hk1 b hlt2 hb)
   have HNEW := Aside0.mk hnew
   clear hnew hMk hseg hk1 hk2 hcc hfr hcl hMx hgD hR5 hz2 hz3 hz4' hz5' hzw hgl'
   go_wp2_with fail
   go_roundw
   case rel => exact ⟨k + 1, by omega, by go_num, HNEW⟩
   case measure => simp [intOf]; omega
  ·obtain rfl : k = l.length := by omega
   go_wp2_with fail
   go_ret
   obtain ⟨h1, h2⟩ := HI.out.stop
   exact ⟨_, rfl, h1, h2⟩
end Go.Proofs.Ytmjeoknamoegpaa.P
namespace Go.Proofs.Ytmjeoknamoegpaa.P
open Go.RowKit Go.Proofs.YtmjeoknamoegpaaW.PrintWords Go.Proofs.YtmjeoknamoegpaaW.PrintLast Go.Proofs.YtmjeoknamoegpaaW.PrintMore
set_option linter.unusedVariables false
set_option linter.unusedSimpArgs false
def Small (l : List S30) : Prop := ∀ x ∈ l, x.f2.length ≤ 1000000 ∧ x.f3.length ≤ 1000000 ∧ x.f4.length ≤ 1000000
theorem new_calls (w : World) : Calls Try.prog 19 #[] w fun e w' => e = .returned (.pointer (some ⟨w.heap.size, 0, none⟩)) ∧ w' = w.alloc (.cells #[.slice none 0 0, .slice none 0 0, .int .i64 0] 46) := by
 go_enter Try.func19, Try.ntmps19
 go_wp2
 go_ret
 exact ⟨rfl, rfl⟩
theorem Mk_new (w : World) (B : Nat) (hB : B ≤ w.heap.size) : Mk (w.alloc (.cells #[.slice none 0 0, .slice none 0 0, .int .i64 0] 46)) B (fun k => w.heap.size ≤ k) w.heap.size [] [] 0 :=
 ⟨_, _, fun _ => False, fun _ => False, heap_alloc_new w _, hB, Nat.le_refl _, Kd.N_nil _ _ _ _ _, Kd.S_nil _ _ _ _ _, fun _ h => h.elim, fun _ h => h.elim⟩
set_option maxHeartbeats 4000000 in
set_option maxRecDepth 100000 in
theorem ops_0 (p : Nat) (D I : List S30) (g : Int) (base : Nat) (ok : Nat → Prop) (w : World) (hM : Mk w base ok p D I g) (hIl : I.length ≤ 1000000) (hDl : D.length ≤ 1000000) (L : List S30) (hL0 : D ++ gapP I g = L) (hsm : Small L) (hL1 : L.length = 0) :
  Calls Try.prog 23 #[.pointer (some ⟨p, 0, none⟩)] w fun e w' => ∃ v : Value, e = .returned v ∧ Kd.S k30 30 w' w.heap.size (fun _ => True) v (L) ∧ Below w.heap.size w w' := by
 obtain ⟨vD, vI, okD, okI, h1, h2, h3, h4, h5, h6, h7⟩ := hM.bound
 have BK := Aside0.mk h1
 have HP := Aside0.mk (blk_lt h1)
 have HD := Aside0.mk h4
 have HI := Aside0.mk h5
 have H6 : Aside0 (∀ k, okD k → base ≤ k ∧ ok k ∧ k ≠ p ∧ k < w.heap.size) := Aside0.mk (fun k hk => ⟨(h6 k hk).1, (h6 k hk).2.1.1, (h6 k hk).2.2, (h6 k hk).2.1.2⟩)
 have H7 : Aside0 (∀ k, okI k → base ≤ k ∧ ok k ∧ k ≠ p ∧ ¬ okD k ∧ k < w.heap.size) := Aside0.mk (fun k hk => ⟨(h7 k hk).1, (h7 k hk).2.1.1, (h7 k hk).2.2.1, (h7 k hk).2.2.2, (h7 k hk).2.1.2⟩)
 have H3 := Aside0.mk h3.1
 have HK := Aside0.mk (Kept.refl w ok)
 have HB := Aside0.mk (Below.refl w.heap.size w)
 have HZ := Aside0.mk (Nat.le_refl w.heap.size)
 obtain ⟨Ai, ci, hvI⟩ := Kd.S_slice h5
 obtain ⟨Ad, cd, hvD⟩ := Kd.N_slice h4
 subst hvI
 subst hvD
 have c0 : w.cell? ⟨p, 0, none⟩ = some (.slice Ad D.length cd) := (blk_cell h1 0).trans rfl
 have HL0 := Aside0.mk hL0
 have HL1 := Aside0.mk hL1
 have hLl : L.length ≤ 3000000 := by have := gapP_len I g; rw [← hL0, List.length_append]; omega
 clear h1 h3 h4 h5 h6 h7 hM hL0 hL1 HK
 go_enter Try.func23, Try.ntmps23
 go_wp2_with fail
 refine start_ (n := 9) (S := fun w' => w'.cell? ⟨p, 0, none⟩ = some (.slice Ad D.length cd)) (ds := []) #[false, false, false, false, false, false, false, false, false] (by kernel_rfl) rfl rfl ((blk_cell (w := w.drew) BK.out 0).trans rfl) (fun hHeld => ?_)
 have hb := below_drew (Below.refl w.heap.size w)
 generalize w.drew = w2 at hb hHeld ⊢
 replace BK := Aside0.mk (blk_below BK.out hb)
 replace HD := Aside0.mk (Kd.N_below HD.out hb)
 replace HB := Aside0.mk (below_step HB.out hb)
 replace HI := Aside0.mk (Kd.S_below HI.out hb)
 clear hb
 refine pure_ (i := 0) (N := some 7) (v := ?_) (a' := ?_) #[true, false, false, false, false, false, false, false, false] rfl rfl (any_of rfl (by kernel_rfl)) (fun _ _ _ h => h) (Or.inl ⟨by rfl, ?_⟩) ?_ ?_
 rotate_left
 ·intro w'
  go_simp
  with_reducible rfl
 rotate_left
 ·simp only [Act.put, List.setIfInBounds_toArray, List.set_cons_zero, List.set_cons_succ, i64_w, i32_w]
  rfl
 refine pure_ (i := 1) (N := some 8) (v := ?_) (a' := ?_) #[true, true, false, false, false, false, false, false, false] rfl rfl (any_of rfl (by kernel_rfl)) (fun _ _ _ h => h) (Or.inl ⟨by rfl, ?_⟩) ?_ ?_
 rotate_left
 ·intro w'
  go_simp
  with_reducible rfl
 rotate_left
 ·simp only [Act.put, List.setIfInBounds_toArray, List.set_cons_zero, List.set_cons_succ, i64_w, i32_w]
  rfl
 refine pure_ (i := 2) (N := some 9) (v := ?_) (a' := ?_) #[true, true, true, false, false, false, false, false, false] rfl rfl (any_of rfl (by kernel_rfl)) (fun _ _ _ h => h) (Or.inl ⟨by rfl, ?_⟩) ?_ ?_
 rotate_left
 ·intro w'
  go_simp
  with_reducible rfl
 rotate_left
 ·simp only [Act.put, List.setIfInBounds_toArray, List.set_cons_zero, List.set_cons_succ, i64_w, i32_w]
  rfl
 refine pure_ (i := 4) (N := some 11) (v := ?_) (a' := ?_) #[true, true, true, false, true, false, false, false, false] rfl rfl (any_of rfl (by kernel_rfl)) (fun _ _ _ h => h) (Or.inl ⟨by rfl, ?_⟩) ?_ ?_
 rotate_left
 ·intro w'
  go_simp
  with_reducible rfl
 rotate_left
 ·simp only [Act.put, List.setIfInBounds_toArray, List.set_cons_zero, List.set_cons_succ, i64_w, i32_w]
  rfl
 refine take_ (i := 3) (N := some 10) (v := ?_) (a' := ?_) #[true, true, true, true, true, false, false, false, false] rfl rfl (take_of rfl (by kernel_rfl)) (fun _ _ _ h => h) (Or.inl ⟨by rfl, ?_⟩) hHeld ?_ ?_
 rotate_left
 ·rintro w' s0
  go_simp
  with_reducible rfl
 rotate_left
 ·simp only [Act.put, List.setIfInBounds_toArray, List.set_cons_zero, List.set_cons_succ, i64_w, i32_w]
  rfl
 refine one_ (i := 5) (N := some 12) #[true, true, true, true, true, true, false, false, false] rfl rfl (one_of rfl (by kernel_rfl)) (by decide) (fun K hK => ?_)
 refine goes_ Try.func35 (by kernel_rfl) rfl #[.pointer (some ⟨p, 0, none⟩)] (by rfl) rfl rfl (by (try simp only [List.map_toArray, List.map_cons, List.map_nil]); first | done | rfl) ?_
 refine (gap_calls p Ai ci I g okI w2 ((blk_cell BK.out 1).trans rfl) ((blk_cell BK.out 2).trans rfl) (Kd.S_V HI.out) hIl).mono ?_
 rintro e w3 ⟨vg, rfl, hN, hb⟩
 obtain ⟨Ag, cg, rfl⟩ := Kd.N_slice hN
 have HN := Aside0.mk hN
 replace BK := Aside0.mk (blk_below BK.out hb)
 replace HD := Aside0.mk (Kd.N_below HD.out hb)
 replace HB := Aside0.mk (below_step HB.out hb)
 clear hN hb HI
 refine ⟨_, rfl, ?_⟩
 refine hK.out _ _ ((blk_cell BK.out 0).trans rfl) (fun hHeld => ?_)
 clear hK K
 refine norm_ (a' := ?_) ?_ ?_
 rotate_left
 ·show Act.put _ (some 12) _ = _
  simp only [Act.put, List.setIfInBounds_toArray, List.set_cons_zero, List.set_cons_succ, i64_w, i32_w]
  rfl
 refine one_ (i := 6) (N := some 13) #[true, true, true, true, true, true, true, false, false] rfl rfl (one_of rfl (by kernel_rfl)) (by decide) (fun K hK => ?_)
 refine value_ (w1 := w3.alloc (.cells #[.slice Ad D.length cd, .slice Ag (gapP I g).length cg] 23)) (v := .slice (some ⟨w3.heap.size, 0, none⟩) 2 2) (by rfl) rfl ?_ ?_
 ·go_simp
  try rfl
 refine hK.out _ _ ((blk_cell (blk_alloc BK.out _) 0).trans rfl) (fun hHeld => ?_)
 clear hK K
 refine norm_ (a' := ?_) ?_ ?_
 rotate_left
 ·show Act.put _ (some 13) _ = _
  simp only [Act.put, List.setIfInBounds_toArray, List.set_cons_zero, List.set_cons_succ, i64_w, i32_w]
  rfl
 have hb := below_alloc (Below.refl w3.heap.size w3) (.cells #[.slice Ad D.length cd, .slice Ag (gapP I g).length cg] 23)
 have BN := Aside0.mk (heap_alloc_new w3 (.cells #[.slice Ad D.length cd, .slice Ag (gapP I g).length cg] 23))
 replace BK := Aside0.mk (blk_below BK.out hb)
 replace HD := Aside0.mk (Kd.N_below HD.out hb)
 replace HB := Aside0.mk (below_step HB.out hb)
 have FD := Aside0.mk (Kd.F_mono (ok' := fun _ => True) (Kd.N_F HD.out) (fun _ _ => trivial))
 have FG := Aside0.mk (Kd.F_mono (ok' := fun _ => True) (Kd.N_F (Kd.N_below HN.out hb)) (fun _ _ => trivial))
 clear hb HN hHeld
 refine one_ (i := 7) (N := some 14) #[true, true, true, true, true, true, true, true, false] rfl rfl (one_of rfl (by kernel_rfl)) (by decide) (fun K hK => ?_)
 refine goes_ Try.func39 (by kernel_rfl) rfl #[.slice (some ⟨w3.heap.size, 0, none⟩) 2 2] (by rfl) rfl rfl (by (try simp only [List.map_toArray, List.map_cons, List.map_nil]); first | done | rfl) ?_
 refine (concat_calls w3.heap.size Ad cd D Ag cg (gapP I g) (fun _ => True) _ ((blk_cell BN.out 0).trans rfl) ((blk_cell BN.out 1).trans rfl) FD.out FG.out (by have := gapP_len I g; omega)).mono ?_
 rintro e w4 ⟨vl, rfl, hN, hb⟩
 rw [HL0.out] at hN
 obtain ⟨Al, cl, rfl⟩ := Kd.N_slice hN
 rw [HL1.out] at hN ⊢
 have HN := Aside0.mk hN
 replace BK := Aside0.mk (blk_below BK.out hb)
 replace HD := Aside0.mk (Kd.N_below HD.out hb)
 replace HB := Aside0.mk (below_step HB.out hb)
 clear hN hb HD BN FD FG
 refine ⟨_, rfl, ?_⟩
 refine hK.out _ _ ((blk_cell BK.out 0).trans rfl) (fun hHeld => ?_)
 clear hK K
 refine norm_ (a' := ?_) ?_ ?_
 rotate_left
 ·show Act.put _ (some 14) _ = _
  simp only [Act.put, List.setIfInBounds_toArray, List.set_cons_zero, List.set_cons_succ, i64_w, i32_w]
  rfl
 refine pure_ (i := 8) (N := some 3) (v := ?_) (a' := ?_) #[true, true, true, true, true, true, true, true, true] rfl rfl (any_of rfl (by kernel_rfl)) (fun _ _ _ h => h) (Or.inl ⟨by rfl, ?_⟩) ?_ ?_
 rotate_left
 ·intro w'
  go_simp
  with_reducible rfl
 rotate_left
 ·simp only [Act.put, List.setIfInBounds_toArray, List.set_cons_zero, List.set_cons_succ, i64_w, i32_w]
  rfl
 refine done_ (done_of rfl (by kernel_rfl)) ?_
 clear c0
 have hCL := (Kd.N_reads' HN.out).2
 have hC4 := copyO_calls Al cl L w4 hCL.2 (by have h_ := hCL.1; rw [HL1.out] ; exact h_) hLl hsm
 rw [HL1.out] at hC4
 have HC4 := Aside0.mk hC4
 clear hCL hC4
 go_wp2_with fail
 go_at_call 40
 refine HC4.out.mono ?_
 rintro e w5 ⟨v, rfl, hS, hb⟩
 have HS := Aside0.mk (Kd.S_lower hS HB.out.size)
 have HBB := Aside0.mk (below_step HB.out hb)
 clear hS hb HN HB
 go_wp2_with fail
 go_ret
 exact ⟨_, rfl, HS.out, HBB.out⟩
set_option maxHeartbeats 4000000 in
set_option maxRecDepth 100000 in
theorem ops_1 (p : Nat) (D I : List S30) (g : Int) (base : Nat) (ok : Nat → Prop) (w : World) (hM : Mk w base ok p D I g) (hIl : I.length ≤ 1000000) (hDl : D.length ≤ 1000000) (L : List S30) (hL0 : D ++ gapP I g = L) (hsm : Small L) (m : Nat) (o : S30) (hL1 : L.length = m + 1) (ho : L[m]? = some o) (hk : o.f0 ≠ 1) :
  Calls Try.prog 23 #[.pointer (some ⟨p, 0, none⟩)] w fun e w' => ∃ v : Value, e = .returned v ∧ Kd.S k30 30 w' w.heap.size (fun _ => True) v (L) ∧ Below w.heap.size w w' := by
 obtain ⟨vD, vI, okD, okI, h1, h2, h3, h4, h5, h6, h7⟩ := hM.bound
 have BK := Aside0.mk h1
 have HP := Aside0.mk (blk_lt h1)
 have HD := Aside0.mk h4
 have HI := Aside0.mk h5
 have H6 : Aside0 (∀ k, okD k → base ≤ k ∧ ok k ∧ k ≠ p ∧ k < w.heap.size) := Aside0.mk (fun k hk => ⟨(h6 k hk).1, (h6 k hk).2.1.1, (h6 k hk).2.2, (h6 k hk).2.1.2⟩)
 have H7 : Aside0 (∀ k, okI k → base ≤ k ∧ ok k ∧ k ≠ p ∧ ¬ okD k ∧ k < w.heap.size) := Aside0.mk (fun k hk => ⟨(h7 k hk).1, (h7 k hk).2.1.1, (h7 k hk).2.2.1, (h7 k hk).2.2.2, (h7 k hk).2.1.2⟩)
 have H3 := Aside0.mk h3.1
 have HK := Aside0.mk (Kept.refl w ok)
 have HB := Aside0.mk (Below.refl w.heap.size w)
 have HZ := Aside0.mk (Nat.le_refl w.heap.size)
 obtain ⟨Ai, ci, hvI⟩ := Kd.S_slice h5
 obtain ⟨Ad, cd, hvD⟩ := Kd.N_slice h4
 subst hvI
 subst hvD
 have c0 : w.cell? ⟨p, 0, none⟩ = some (.slice Ad D.length cd) := (blk_cell h1 0).trans rfl
 have HL0 := Aside0.mk hL0
 have HL1 := Aside0.mk hL1
 have hLl : L.length ≤ 3000000 := by have := gapP_len I g; rw [← hL0, List.length_append]; omega
 clear h1 h3 h4 h5 h6 h7 hM hL0 hL1 HK
 have HO_ := Aside0.mk ho
 clear ho
 have hm1 : m + 1 ≤ 3000000 := by have := HL1.out; omega
 have hkb : (o.f0 == 1) = false := beq_eq_false_iff_ne.2 hk
 clear hk
 go_enter Try.func23, Try.ntmps23
 go_wp2_with fail
 refine start_ (n := 9) (S := fun w' => w'.cell? ⟨p, 0, none⟩ = some (.slice Ad D.length cd)) (ds := []) #[false, false, false, false, false, false, false, false, false] (by kernel_rfl) rfl rfl ((blk_cell (w := w.drew) BK.out 0).trans rfl) (fun hHeld => ?_)
 have hb := below_drew (Below.refl w.heap.size w)
 generalize w.drew = w2 at hb hHeld ⊢
 replace BK := Aside0.mk (blk_below BK.out hb)
 replace HD := Aside0.mk (Kd.N_below HD.out hb)
 replace HB := Aside0.mk (below_step HB.out hb)
 replace HI := Aside0.mk (Kd.S_below HI.out hb)
 clear hb
 refine pure_ (i := 0) (N := some 7) (v := ?_) (a' := ?_) #[true, false, false, false, false, false, false, false, false] rfl rfl (any_of rfl (by kernel_rfl)) (fun _ _ _ h => h) (Or.inl ⟨by rfl, ?_⟩) ?_ ?_
 rotate_left
 ·intro w'
  go_simp
  with_reducible rfl
 rotate_left
 ·simp only [Act.put, List.setIfInBounds_toArray, List.set_cons_zero, List.set_cons_succ, i64_w, i32_w]
  rfl
 refine pure_ (i := 1) (N := some 8) (v := ?_) (a' := ?_) #[true, true, false, false, false, false, false, false, false] rfl rfl (any_of rfl (by kernel_rfl)) (fun _ _ _ h => h) (Or.inl ⟨by rfl, ?_⟩) ?_ ?_
 rotate_left
 ·intro w'
  go_simp
  with_reducible rfl
 rotate_left
 ·simp only [Act.put, List.setIfInBounds_toArray, List.set_cons_zero, List.set_cons_succ, i64_w, i32_w]
  rfl
 refine pure_ (i := 2) (N := some 9) (v := ?_) (a' := ?_) #[true, true, true, false, false, false, false, false, false] rfl rfl (any_of rfl (by kernel_rfl)) (fun _ _ _ h => h) (Or.inl ⟨by rfl, ?_⟩) ?_ ?_
 rotate_left
 ·intro w'
  go_simp
  with_reducible rfl
 rotate_left
 ·simp only [Act.put, List.setIfInBounds_toArray, List.set_cons_zero, List.set_cons_succ, i64_w, i32_w]
  rfl
 refine pure_ (i := 4) (N := some 11) (v := ?_) (a' := ?_) #[true, true, true, false, true, false, false, false, false] rfl rfl (any_of rfl (by kernel_rfl)) (fun _ _ _ h => h) (Or.inl ⟨by rfl, ?_⟩) ?_ ?_
 rotate_left
 ·intro w'
  go_simp
  with_reducible rfl
 rotate_left
 ·simp only [Act.put, List.setIfInBounds_toArray, List.set_cons_zero, List.set_cons_succ, i64_w, i32_w]
  rfl
 refine take_ (i := 3) (N := some 10) (v := ?_) (a' := ?_) #[true, true, true, true, true, false, false, false, false] rfl rfl (take_of rfl (by kernel_rfl)) (fun _ _ _ h => h) (Or.inl ⟨by rfl, ?_⟩) hHeld ?_ ?_
 rotate_left
 ·rintro w' s0
  go_simp
  with_reducible rfl
 rotate_left
 ·simp only [Act.put, List.setIfInBounds_toArray, List.set_cons_zero, List.set_cons_succ, i64_w, i32_w]
  rfl
 refine one_ (i := 5) (N := some 12) #[true, true, true, true, true, true, false, false, false] rfl rfl (one_of rfl (by kernel_rfl)) (by decide) (fun K hK => ?_)
 refine goes_ Try.func35 (by kernel_rfl) rfl #[.pointer (some ⟨p, 0, none⟩)] (by rfl) rfl rfl (by (try simp only [List.map_toArray, List.map_cons, List.map_nil]); first | done | rfl) ?_
 refine (gap_calls p Ai ci I g okI w2 ((blk_cell BK.out 1).trans rfl) ((blk_cell BK.out 2).trans rfl) (Kd.S_V HI.out) hIl).mono ?_
 rintro e w3 ⟨vg, rfl, hN, hb⟩
 obtain ⟨Ag, cg, rfl⟩ := Kd.N_slice hN
 have HN := Aside0.mk hN
 replace BK := Aside0.mk (blk_below BK.out hb)
 replace HD := Aside0.mk (Kd.N_below HD.out hb)
 replace HB := Aside0.mk (below_step HB.out hb)
 clear hN hb HI
 refine ⟨_, rfl, ?_⟩
 refine hK.out _ _ ((blk_cell BK.out 0).trans rfl) (fun hHeld => ?_)
 clear hK K
 refine norm_ (a' := ?_) ?_ ?_
 rotate_left
 ·show Act.put _ (some 12) _ = _
  simp only [Act.put, List.setIfInBounds_toArray, List.set_cons_zero, List.set_cons_succ, i64_w, i32_w]
  rfl
 refine one_ (i := 6) (N := some 13) #[true, true, true, true, true, true, true, false, false] rfl rfl (one_of rfl (by kernel_rfl)) (by decide) (fun K hK => ?_)
 refine value_ (w1 := w3.alloc (.cells #[.slice Ad D.length cd, .slice Ag (gapP I g).length cg] 23)) (v := .slice (some ⟨w3.heap.size, 0, none⟩) 2 2) (by rfl) rfl ?_ ?_
 ·go_simp
  try rfl
 refine hK.out _ _ ((blk_cell (blk_alloc BK.out _) 0).trans rfl) (fun hHeld => ?_)
 clear hK K
 refine norm_ (a' := ?_) ?_ ?_
 rotate_left
 ·show Act.put _ (some 13) _ = _
  simp only [Act.put, List.setIfInBounds_toArray, List.set_cons_zero, List.set_cons_succ, i64_w, i32_w]
  rfl
 have hb := below_alloc (Below.refl w3.heap.size w3) (.cells #[.slice Ad D.length cd, .slice Ag (gapP I g).length cg] 23)
 have BN := Aside0.mk (heap_alloc_new w3 (.cells #[.slice Ad D.length cd, .slice Ag (gapP I g).length cg] 23))
 replace BK := Aside0.mk (blk_below BK.out hb)
 replace HD := Aside0.mk (Kd.N_below HD.out hb)
 replace HB := Aside0.mk (below_step HB.out hb)
 have FD := Aside0.mk (Kd.F_mono (ok' := fun _ => True) (Kd.N_F HD.out) (fun _ _ => trivial))
 have FG := Aside0.mk (Kd.F_mono (ok' := fun _ => True) (Kd.N_F (Kd.N_below HN.out hb)) (fun _ _ => trivial))
 clear hb HN hHeld
 refine one_ (i := 7) (N := some 14) #[true, true, true, true, true, true, true, true, false] rfl rfl (one_of rfl (by kernel_rfl)) (by decide) (fun K hK => ?_)
 refine goes_ Try.func39 (by kernel_rfl) rfl #[.slice (some ⟨w3.heap.size, 0, none⟩) 2 2] (by rfl) rfl rfl (by (try simp only [List.map_toArray, List.map_cons, List.map_nil]); first | done | rfl) ?_
 refine (concat_calls w3.heap.size Ad cd D Ag cg (gapP I g) (fun _ => True) _ ((blk_cell BN.out 0).trans rfl) ((blk_cell BN.out 1).trans rfl) FD.out FG.out (by have := gapP_len I g; omega)).mono ?_
 rintro e w4 ⟨vl, rfl, hN, hb⟩
 rw [HL0.out] at hN
 obtain ⟨Al, cl, rfl⟩ := Kd.N_slice hN
 rw [HL1.out] at hN ⊢
 have HN := Aside0.mk hN
 replace BK := Aside0.mk (blk_below BK.out hb)
 replace HD := Aside0.mk (Kd.N_below HD.out hb)
 replace HB := Aside0.mk (below_step HB.out hb)
 clear hN hb HD BN FD FG
 refine ⟨_, rfl, ?_⟩
 refine hK.out _ _ ((blk_cell BK.out 0).trans rfl) (fun hHeld => ?_)
 clear hK K
 refine norm_ (a' := ?_) ?_ ?_
 rotate_left
 ·show Act.put _ (some 14) _ = _
  simp only [Act.put, List.setIfInBounds_toArray, List.set_cons_zero, List.set_cons_succ, i64_w, i32_w]
  rfl
 refine pure_ (i := 8) (N := some 3) (v := ?_) (a' := ?_) #[true, true, true, true, true, true, true, true, true] rfl rfl (any_of rfl (by kernel_rfl)) (fun _ _ _ h => h) (Or.inl ⟨by rfl, ?_⟩) ?_ ?_
 rotate_left
 ·intro w'
  go_simp
  with_reducible rfl
 rotate_left
 ·simp only [Act.put, List.setIfInBounds_toArray, List.set_cons_zero, List.set_cons_succ, i64_w, i32_w]
  rfl
 refine done_ (done_of rfl (by kernel_rfl)) ?_
 clear c0
 obtain ⟨gD, capD, hvD, _, hgl, cellsD, hcD⟩ := Kd.N_form HN.out (by have := HL1.out; omega)
 injection hvD with hA1 hlen_ hc1
 clear hlen_
 subst hA1
 subst hc1
 obtain ⟨ce, _, hFK, hcc, _⟩ := Kd.N_elem HN.out z30 (m : Int) (by omega) (by omega)
 have hgetD : L.getD (m : Int).toNat z30 = o := by rw [Int.toNat_natCast, List.getD_eq_getElem?_getD, HO_.out]; rfl
 rw [hgetD] at hFK
 obtain ⟨A2, c2, A3, c3, A4, c4, rfl, _, _, _, _, hl4, hF4⟩ := k30_openF hFK
 have e0 : w4.cell? ⟨gD, m * 5, none⟩ = some (.int .u8 o.f0) := hcc 0 _ rfl
 have e4 : w4.cell? ⟨gD, m * 5 + 4, none⟩ = some (.slice A4 o.f4.length c4) := hcc 4 _ rfl
 have q0 : (0 : Int) ≤ (m : Int) := Int.natCast_nonneg m
 have q1 : (m : Int) < (m : Int) + 1 := by omega
 clear hFK hcc hgetD hl4 hF4 hcD
 have hCL := (Kd.N_reads' HN.out).2
 have hC4 := copyO_calls (some ⟨gD, 0, none⟩) cl L w4 hCL.2 (by have h_ := hCL.1; rw [HL1.out] ; exact h_) hLl hsm
 rw [HL1.out] at hC4
 have HC4 := Aside0.mk hC4
 clear hCL hC4
 go_wp2_with fail
 go_at_call 40
 refine HC4.out.mono ?_
 rintro e w5 ⟨v, rfl, hS, hb⟩
 have HS := Aside0.mk (Kd.S_lower hS HB.out.size)
 have HBB := Aside0.mk (below_step HB.out hb)
 clear hS hb HN HB
 go_wp2_with fail
 go_ret
 exact ⟨_, rfl, HS.out, HBB.out⟩
set_option maxHeartbeats 4000000 in
set_option maxRecDepth 100000 in
theorem ops_2 (p : Nat) (D I : List S30) (g : Int) (base : Nat) (ok : Nat → Prop) (w : World) (hM : Mk w base ok p D I g) (hIl : I.length ≤ 1000000) (hDl : D.length ≤ 1000000) (L : List S30) (hL0 : D ++ gapP I g = L) (hsm : Small L) (m : Nat) (o : S30) (hL1 : L.length = m + 1) (ho : L[m]? = some o) (hk : o.f0 = 1) (hp : o.f4.length ≠ 0) :
  Calls Try.prog 23 #[.pointer (some ⟨p, 0, none⟩)] w fun e w' => ∃ v : Value, e = .returned v ∧ Kd.S k30 30 w' w.heap.size (fun _ => True) v (L) ∧ Below w.heap.size w w' := by
 obtain ⟨vD, vI, okD, okI, h1, h2, h3, h4, h5, h6, h7⟩ := hM.bound
 have BK := Aside0.mk h1
 have HP := Aside0.mk (blk_lt h1)
 have HD := Aside0.mk h4
 have HI := Aside0.mk h5
 have H6 : Aside0 (∀ k, okD k → base ≤ k ∧ ok k ∧ k ≠ p ∧ k < w.heap.size) := Aside0.mk (fun k hk => ⟨(h6 k hk).1, (h6 k hk).2.1.1, (h6 k hk).2.2, (h6 k hk).2.1.2⟩)
 have H7 : Aside0 (∀ k, okI k → base ≤ k ∧ ok k ∧ k ≠ p ∧ ¬ okD k ∧ k < w.heap.size) := Aside0.mk (fun k hk => ⟨(h7 k hk).1, (h7 k hk).2.1.1, (h7 k hk).2.2.1, (h7 k hk).2.2.2, (h7 k hk).2.1.2⟩)
 have H3 := Aside0.mk h3.1
 have HK := Aside0.mk (Kept.refl w ok)
 have HB := Aside0.mk (Below.refl w.heap.size w)
 have HZ := Aside0.mk (Nat.le_refl w.heap.size)
 obtain ⟨Ai, ci, hvI⟩ := Kd.S_slice h5
 obtain ⟨Ad, cd, hvD⟩ := Kd.N_slice h4
 subst hvI
 subst hvD
 have c0 : w.cell? ⟨p, 0, none⟩ = some (.slice Ad D.length cd) := (blk_cell h1 0).trans rfl
 have HL0 := Aside0.mk hL0
 have HL1 := Aside0.mk hL1
 have hLl : L.length ≤ 3000000 := by have := gapP_len I g; rw [← hL0, List.length_append]; omega
 clear h1 h3 h4 h5 h6 h7 hM hL0 hL1 HK
 have HO_ := Aside0.mk ho
 clear ho
 have hm1 : m + 1 ≤ 3000000 := by have := HL1.out; omega
 have hkb : (o.f0 == 1) = true := beq_iff_eq.2 hk
 have hpb : ((o.f4.length : Int) == 0) = false := beq_eq_false_iff_ne.2 (by omega)
 clear hk hp
 go_enter Try.func23, Try.ntmps23
 go_wp2_with fail
 refine start_ (n := 9) (S := fun w' => w'.cell? ⟨p, 0, none⟩ = some (.slice Ad D.length cd)) (ds := []) #[false, false, false, false, false, false, false, false, false] (by kernel_rfl) rfl rfl ((blk_cell (w := w.drew) BK.out 0).trans rfl) (fun hHeld => ?_)
 have hb := below_drew (Below.refl w.heap.size w)
 generalize w.drew = w2 at hb hHeld ⊢
 replace BK := Aside0.mk (blk_below BK.out hb)
 replace HD := Aside0.mk (Kd.N_below HD.out hb)
 replace HB := Aside0.mk (below_step HB.out hb)
 replace HI := Aside0.mk (Kd.S_below HI.out hb)
 clear hb
 refine pure_ (i := 0) (N := some 7) (v := ?_) (a' := ?_) #[true, false, false, false, false, false, false, false, false] rfl rfl (any_of rfl (by kernel_rfl)) (fun _ _ _ h => h) (Or.inl ⟨by rfl, ?_⟩) ?_ ?_
 rotate_left
 ·intro w'
  go_simp
  with_reducible rfl
 rotate_left
 ·simp only [Act.put, List.setIfInBounds_toArray, List.set_cons_zero, List.set_cons_succ, i64_w, i32_w]
  rfl
 refine pure_ (i := 1) (N := some 8) (v := ?_) (a' := ?_) #[true, true, false, false, false, false, false, false, false] rfl rfl (any_of rfl (by kernel_rfl)) (fun _ _ _ h => h) (Or.inl ⟨by rfl, ?_⟩) ?_ ?_
 rotate_left
 ·intro w'
  go_simp
  with_reducible rfl
 rotate_left
 ·simp only [Act.put, List.setIfInBounds_toArray, List.set_cons_zero, List.set_cons_succ, i64_w, i32_w]
  rfl
 refine pure_ (i := 2) (N := some 9) (v := ?_) (a' := ?_) #[true, true, true, false, false, false, false, false, false] rfl rfl (any_of rfl (by kernel_rfl)) (fun _ _ _ h => h) (Or.inl ⟨by rfl, ?_⟩) ?_ ?_
 rotate_left
 ·intro w'
  go_simp
  with_reducible rfl
 rotate_left
 ·simp only [Act.put, List.setIfInBounds_toArray, List.set_cons_zero, List.set_cons_succ, i64_w, i32_w]
  rfl
 refine pure_ (i := 4) (N := some 11) (v := ?_) (a' := ?_) #[true, true, true, false, true, false, false, false, false] rfl rfl (any_of rfl (by kernel_rfl)) (fun _ _ _ h => h) (Or.inl ⟨by rfl, ?_⟩) ?_ ?_
 rotate_left
 ·intro w'
  go_simp
  with_reducible rfl
 rotate_left
 ·simp only [Act.put, List.setIfInBounds_toArray, List.set_cons_zero, List.set_cons_succ, i64_w, i32_w]
  rfl
 refine take_ (i := 3) (N := some 10) (v := ?_) (a' := ?_) #[true, true, true, true, true, false, false, false, false] rfl rfl (take_of rfl (by kernel_rfl)) (fun _ _ _ h => h) (Or.inl ⟨by rfl, ?_⟩) hHeld ?_ ?_
 rotate_left
 ·rintro w' s0
  go_simp
  with_reducible rfl
 rotate_left
 ·simp only [Act.put, List.setIfInBounds_toArray, List.set_cons_zero, List.set_cons_succ, i64_w, i32_w]
  rfl
 refine one_ (i := 5) (N := some 12) #[true, true, true, true, true, true, false, false, false] rfl rfl (one_of rfl (by kernel_rfl)) (by decide) (fun K hK => ?_)
 refine goes_ Try.func35 (by kernel_rfl) rfl #[.pointer (some ⟨p, 0, none⟩)] (by rfl) rfl rfl (by (try simp only [List.map_toArray, List.map_cons, List.map_nil]); first | done | rfl) ?_
 refine (gap_calls p Ai ci I g okI w2 ((blk_cell BK.out 1).trans rfl) ((blk_cell BK.out 2).trans rfl) (Kd.S_V HI.out) hIl).mono ?_
 rintro e w3 ⟨vg, rfl, hN, hb⟩
 obtain ⟨Ag, cg, rfl⟩ := Kd.N_slice hN
 have HN := Aside0.mk hN
 replace BK := Aside0.mk (blk_below BK.out hb)
 replace HD := Aside0.mk (Kd.N_below HD.out hb)
 replace HB := Aside0.mk (below_step HB.out hb)
 clear hN hb HI
 refine ⟨_, rfl, ?_⟩
 refine hK.out _ _ ((blk_cell BK.out 0).trans rfl) (fun hHeld => ?_)
 clear hK K
 refine norm_ (a' := ?_) ?_ ?_
 rotate_left
 ·show Act.put _ (some 12) _ = _
  simp only [Act.put, List.setIfInBounds_toArray, List.set_cons_zero, List.set_cons_succ, i64_w, i32_w]
  rfl
 refine one_ (i := 6) (N := some 13) #[true, true, true, true, true, true, true, false, false] rfl rfl (one_of rfl (by kernel_rfl)) (by decide) (fun K hK => ?_)
 refine value_ (w1 := w3.alloc (.cells #[.slice Ad D.length cd, .slice Ag (gapP I g).length cg] 23)) (v := .slice (some ⟨w3.heap.size, 0, none⟩) 2 2) (by rfl) rfl ?_ ?_
 ·go_simp
  try rfl
 refine hK.out _ _ ((blk_cell (blk_alloc BK.out _) 0).trans rfl) (fun hHeld => ?_)
 clear hK K
 refine norm_ (a' := ?_) ?_ ?_
 rotate_left
 ·show Act.put _ (some 13) _ = _
  simp only [Act.put, List.setIfInBounds_toArray, List.set_cons_zero, List.set_cons_succ, i64_w, i32_w]
  rfl
 have hb := below_alloc (Below.refl w3.heap.size w3) (.cells #[.slice Ad D.length cd, .slice Ag (gapP I g).length cg] 23)
 have BN := Aside0.mk (heap_alloc_new w3 (.cells #[.slice Ad D.length cd, .slice Ag (gapP I g).length cg] 23))
 replace BK := Aside0.mk (blk_below BK.out hb)
 replace HD := Aside0.mk (Kd.N_below HD.out hb)
 replace HB := Aside0.mk (below_step HB.out hb)
 have FD := Aside0.mk (Kd.F_mono (ok' := fun _ => True) (Kd.N_F HD.out) (fun _ _ => trivial))
 have FG := Aside0.mk (Kd.F_mono (ok' := fun _ => True) (Kd.N_F (Kd.N_below HN.out hb)) (fun _ _ => trivial))
 clear hb HN hHeld
 refine one_ (i := 7) (N := some 14) #[true, true, true, true, true, true, true, true, false] rfl rfl (one_of rfl (by kernel_rfl)) (by decide) (fun K hK => ?_)
 refine goes_ Try.func39 (by kernel_rfl) rfl #[.slice (some ⟨w3.heap.size, 0, none⟩) 2 2] (by rfl) rfl rfl (by (try simp only [List.map_toArray, List.map_cons, List.map_nil]); first | done | rfl) ?_
 refine (concat_calls w3.heap.size Ad cd D Ag cg (gapP I g) (fun _ => True) _ ((blk_cell BN.out 0).trans rfl) ((blk_cell BN.out 1).trans rfl) FD.out FG.out (by have := gapP_len I g; omega)).mono ?_
 rintro e w4 ⟨vl, rfl, hN, hb⟩
 rw [HL0.out] at hN
 obtain ⟨Al, cl, rfl⟩ := Kd.N_slice hN
 rw [HL1.out] at hN ⊢
 have HN := Aside0.mk hN
 replace BK := Aside0.mk (blk_below BK.out hb)
 replace HD := Aside0.mk (Kd.N_below HD.out hb)
 replace HB := Aside0.mk (below_step HB.out hb)
 clear hN hb HD BN FD FG
 refine ⟨_, rfl, ?_⟩
 refine hK.out _ _ ((blk_cell BK.out 0).trans rfl) (fun hHeld => ?_)
 clear hK K
 refine norm_ (a' := ?_) ?_ ?_
 rotate_left
 ·show Act.put _ (some 14) _ = _
  simp only [Act.put, List.setIfInBounds_toArray, List.set_cons_zero, List.set_cons_succ, i64_w, i32_w]
  rfl
 refine pure_ (i := 8) (N := some 3) (v := ?_) (a' := ?_) #[true, true, true, true, true, true, true, true, true] rfl rfl (any_of rfl (by kernel_rfl)) (fun _ _ _ h => h) (Or.inl ⟨by rfl, ?_⟩) ?_ ?_
 rotate_left
 ·intro w'
  go_simp
  with_reducible rfl
 rotate_left
 ·simp only [Act.put, List.setIfInBounds_toArray, List.set_cons_zero, List.set_cons_succ, i64_w, i32_w]
  rfl
 refine done_ (done_of rfl (by kernel_rfl)) ?_
 clear c0
 obtain ⟨gD, capD, hvD, _, hgl, cellsD, hcD⟩ := Kd.N_form HN.out (by have := HL1.out; omega)
 injection hvD with hA1 hlen_ hc1
 clear hlen_
 subst hA1
 subst hc1
 obtain ⟨ce, _, hFK, hcc, _⟩ := Kd.N_elem HN.out z30 (m : Int) (by omega) (by omega)
 have hgetD : L.getD (m : Int).toNat z30 = o := by rw [Int.toNat_natCast, List.getD_eq_getElem?_getD, HO_.out]; rfl
 rw [hgetD] at hFK
 obtain ⟨A2, c2, A3, c3, A4, c4, rfl, _, _, _, _, hl4, hF4⟩ := k30_openF hFK
 have e0 : w4.cell? ⟨gD, m * 5, none⟩ = some (.int .u8 o.f0) := hcc 0 _ rfl
 have e4 : w4.cell? ⟨gD, m * 5 + 4, none⟩ = some (.slice A4 o.f4.length c4) := hcc 4 _ rfl
 have q0 : (0 : Int) ≤ (m : Int) := Int.natCast_nonneg m
 have q1 : (m : Int) < (m : Int) + 1 := by omega
 clear hFK hcc hgetD hl4 hF4 hcD
 have hCL := (Kd.N_reads' HN.out).2
 have hC4 := copyO_calls (some ⟨gD, 0, none⟩) cl L w4 hCL.2 (by have h_ := hCL.1; rw [HL1.out] ; exact h_) hLl hsm
 rw [HL1.out] at hC4
 have HC4 := Aside0.mk hC4
 clear hCL hC4
 go_wp2_with fail
 go_at_call 40
 refine HC4.out.mono ?_
 rintro e w5 ⟨v, rfl, hS, hb⟩
 have HS := Aside0.mk (Kd.S_lower hS HB.out.size)
 have HBB := Aside0.mk (below_step HB.out hb)
 clear hS hb HN HB
 go_wp2_with fail
 go_ret
 exact ⟨_, rfl, HS.out, HBB.out⟩
set_option maxHeartbeats 4000000 in
set_option maxRecDepth 100000 in
theorem ops_3 (p : Nat) (D I : List S30) (g : Int) (base : Nat) (ok : Nat → Prop) (w : World) (hM : Mk w base ok p D I g) (hIl : I.length ≤ 1000000) (hDl : D.length ≤ 1000000) (L : List S30) (hL0 : D ++ gapP I g = L) (hsm : Small L) (m : Nat) (o : S30) (hL1 : L.length = m + 1) (ho : L[m]? = some o) (hk : o.f0 = 1) (hp : o.f4.length = 0) :
  Calls Try.prog 23 #[.pointer (some ⟨p, 0, none⟩)] w fun e w' => ∃ v : Value, e = .returned v ∧ Kd.S k30 30 w' w.heap.size (fun _ => True) v (L.take m) ∧ Below w.heap.size w w' := by
 obtain ⟨vD, vI, okD, okI, h1, h2, h3, h4, h5, h6, h7⟩ := hM.bound
 have BK := Aside0.mk h1
 have HP := Aside0.mk (blk_lt h1)
 have HD := Aside0.mk h4
 have HI := Aside0.mk h5
 have H6 : Aside0 (∀ k, okD k → base ≤ k ∧ ok k ∧ k ≠ p ∧ k < w.heap.size) := Aside0.mk (fun k hk => ⟨(h6 k hk).1, (h6 k hk).2.1.1, (h6 k hk).2.2, (h6 k hk).2.1.2⟩)
 have H7 : Aside0 (∀ k, okI k → base ≤ k ∧ ok k ∧ k ≠ p ∧ ¬ okD k ∧ k < w.heap.size) := Aside0.mk (fun k hk => ⟨(h7 k hk).1, (h7 k hk).2.1.1, (h7 k hk).2.2.1, (h7 k hk).2.2.2, (h7 k hk).2.1.2⟩)
 have H3 := Aside0.mk h3.1
 have HK := Aside0.mk (Kept.refl w ok)
 have HB := Aside0.mk (Below.refl w.heap.size w)
 have HZ := Aside0.mk (Nat.le_refl w.heap.size)
 obtain ⟨Ai, ci, hvI⟩ := Kd.S_slice h5
 obtain ⟨Ad, cd, hvD⟩ := Kd.N_slice h4
 subst hvI
 subst hvD
 have c0 : w.cell? ⟨p, 0, none⟩ = some (.slice Ad D.length cd) := (blk_cell h1 0).trans rfl
 have HL0 := Aside0.mk hL0
 have HL1 := Aside0.mk hL1
 have hLl : L.length ≤ 3000000 := by have := gapP_len I g; rw [← hL0, List.length_append]; omega
 clear h1 h3 h4 h5 h6 h7 hM hL0 hL1 HK
 have HO_ := Aside0.mk ho
 clear ho
 have hm1 : m + 1 ≤ 3000000 := by have := HL1.out; omega
 have hkb : (o.f0 == 1) = true := beq_iff_eq.2 hk
 have hpb : ((o.f4.length : Int) == 0) = true := beq_iff_eq.2 (by omega)
 clear hk
 go_enter Try.func23, Try.ntmps23
 go_wp2_with fail
 refine start_ (n := 9) (S := fun w' => w'.cell? ⟨p, 0, none⟩ = some (.slice Ad D.length cd)) (ds := []) #[false, false, false, false, false, false, false, false, false] (by kernel_rfl) rfl rfl ((blk_cell (w := w.drew) BK.out 0).trans rfl) (fun hHeld => ?_)
 have hb := below_drew (Below.refl w.heap.size w)
 generalize w.drew = w2 at hb hHeld ⊢
 replace BK := Aside0.mk (blk_below BK.out hb)
 replace HD := Aside0.mk (Kd.N_below HD.out hb)
 replace HB := Aside0.mk (below_step HB.out hb)
 replace HI := Aside0.mk (Kd.S_below HI.out hb)
 clear hb
 refine pure_ (i := 0) (N := some 7) (v := ?_) (a' := ?_) #[true, false, false, false, false, false, false, false, false] rfl rfl (any_of rfl (by kernel_rfl)) (fun _ _ _ h => h) (Or.inl ⟨by rfl, ?_⟩) ?_ ?_
 rotate_left
 ·intro w'
  go_simp
  with_reducible rfl
 rotate_left
 ·simp only [Act.put, List.setIfInBounds_toArray, List.set_cons_zero, List.set_cons_succ, i64_w, i32_w]
  rfl
 refine pure_ (i := 1) (N := some 8) (v := ?_) (a' := ?_) #[true, true, false, false, false, false, false, false, false] rfl rfl (any_of rfl (by kernel_rfl)) (fun _ _ _ h => h) (Or.inl ⟨by rfl, ?_⟩) ?_ ?_
 rotate_left
 ·intro w'
  go_simp
  with_reducible rfl
 rotate_left
 ·simp only [Act.put, List.setIfInBounds_toArray, List.set_cons_zero, List.set_cons_succ, i64_w, i32_w]
  rfl
 refine pure_ (i := 2) (N := some 9) (v := ?_) (a' := ?_) #[true, true, true, false, false, false, false, false, false] rfl rfl (any_of rfl (by kernel_rfl)) (fun _ _ _ h => h) (Or.inl ⟨by rfl, ?_⟩) ?_ ?_
 rotate_left
 ·intro w'
  go_simp
  with_reducible rfl
 rotate_left
 ·simp only [Act.put, List.setIfInBounds_toArray, List.set_cons_zero, List.set_cons_succ, i64_w, i32_w]
  rfl
 refine pure_ (i := 4) (N := some 11) (v := ?_) (a' := ?_) #[true, true, true, false, true, false, false, false, false] rfl rfl (any_of rfl (by kernel_rfl)) (fun _ _ _ h => h) (Or.inl ⟨by rfl, ?_⟩) ?_ ?_
 rotate_left
 ·intro w'
  go_simp
  with_reducible rfl
 rotate_left
 ·simp only [Act.put, List.setIfInBounds_toArray, List.set_cons_zero, List.set_cons_succ, i64_w, i32_w]
  rfl
 refine take_ (i := 3) (N := some 10) (v := ?_) (a' := ?_) #[true, true, true, true, true, false, false, false, false] rfl rfl (take_of rfl (by kernel_rfl)) (fun _ _ _ h => h) (Or.inl ⟨by rfl, ?_⟩) hHeld ?_ ?_
 rotate_left
 ·rintro w' s0
  go_simp
  with_reducible rfl
 rotate_left
 ·simp only [Act.put, List.setIfInBounds_toArray, List.set_cons_zero, List.set_cons_succ, i64_w, i32_w]
  rfl
 refine one_ (i := 5) (N := some 12) #[true, true, true, true, true, true, false, false, false] rfl rfl (one_of rfl (by kernel_rfl)) (by decide) (fun K hK => ?_)
 refine goes_ Try.func35 (by kernel_rfl) rfl #[.pointer (some ⟨p, 0, none⟩)] (by rfl) rfl rfl (by (try simp only [List.map_toArray, List.map_cons, List.map_nil]); first | done | rfl) ?_
 refine (gap_calls p Ai ci I g okI w2 ((blk_cell BK.out 1).trans rfl) ((blk_cell BK.out 2).trans rfl) (Kd.S_V HI.out) hIl).mono ?_
 rintro e w3 ⟨vg, rfl, hN, hb⟩
 obtain ⟨Ag, cg, rfl⟩ := Kd.N_slice hN
 have HN := Aside0.mk hN
 replace BK := Aside0.mk (blk_below BK.out hb)
 replace HD := Aside0.mk (Kd.N_below HD.out hb)
 replace HB := Aside0.mk (below_step HB.out hb)
 clear hN hb HI
 refine ⟨_, rfl, ?_⟩
 refine hK.out _ _ ((blk_cell BK.out 0).trans rfl) (fun hHeld => ?_)
 clear hK K
 refine norm_ (a' := ?_) ?_ ?_
 rotate_left
 ·show Act.put _ (some 12) _ = _
  simp only [Act.put, List.setIfInBounds_toArray, List.set_cons_zero, List.set_cons_succ, i64_w, i32_w]
  rfl
 refine one_ (i := 6) (N := some 13) #[true, true, true, true, true, true, true, false, false] rfl rfl (one_of rfl (by kernel_rfl)) (by decide) (fun K hK => ?_)
 refine value_ (w1 := w3.alloc (.cells #[.slice Ad D.length cd, .slice Ag (gapP I g).length cg] 23)) (v := .slice (some ⟨w3.heap.size, 0, none⟩) 2 2) (by rfl) rfl ?_ ?_
 ·go_simp
  try rfl
 refine hK.out _ _ ((blk_cell (blk_alloc BK.out _) 0).trans rfl) (fun hHeld => ?_)
 clear hK K
 refine norm_ (a' := ?_) ?_ ?_
 rotate_left
 ·show Act.put _ (some 13) _ = _
  simp only [Act.put, List.setIfInBounds_toArray, List.set_cons_zero, List.set_cons_succ, i64_w, i32_w]
  rfl
 have hb := below_alloc (Below.refl w3.heap.size w3) (.cells #[.slice Ad D.length cd, .slice Ag (gapP I g).length cg] 23)
 have BN := Aside0.mk (heap_alloc_new w3 (.cells #[.slice Ad D.length cd, .slice Ag (gapP I g).length cg] 23))
 replace BK := Aside0.mk (blk_below BK.out hb)
 replace HD := Aside0.mk (Kd.N_below HD.out hb)
 replace HB := Aside0.mk (below_step HB.out hb)
 have FD := Aside0.mk (Kd.F_mono (ok' := fun _ => True) (Kd.N_F HD.out) (fun _ _ => trivial))
 have FG := Aside0.mk (Kd.F_mono (ok' := fun _ => True) (Kd.N_F (Kd.N_below HN.out hb)) (fun _ _ => trivial))
 clear hb HN hHeld
 refine one_ (i := 7) (N := some 14) #[true, true, true, true, true, true, true, true, false] rfl rfl (one_of rfl (by kernel_rfl)) (by decide) (fun K hK => ?_)
 refine goes_ Try.func39 (by kernel_rfl) rfl #[.slice (some ⟨w3.heap.size, 0, none⟩) 2 2] (by rfl) rfl rfl (by (try simp only [List.map_toArray, List.map_cons, List.map_nil]); first | done | rfl) ?_
 refine (concat_calls w3.heap.size Ad cd D Ag cg (gapP I g) (fun _ => True) _ ((blk_cell BN.out 0).trans rfl) ((blk_cell BN.out 1).trans rfl) FD.out FG.out (by have := gapP_len I g; omega)).mono ?_
 rintro e w4 ⟨vl, rfl, hN, hb⟩
 rw [HL0.out] at hN
 obtain ⟨Al, cl, rfl⟩ := Kd.N_slice hN
 rw [HL1.out] at hN ⊢
 have HN := Aside0.mk hN
 replace BK := Aside0.mk (blk_below BK.out hb)
 replace HD := Aside0.mk (Kd.N_below HD.out hb)
 replace HB := Aside0.mk (below_step HB.out hb)
 clear hN hb HD BN FD FG
 refine ⟨_, rfl, ?_⟩
 refine hK.out _ _ ((blk_cell BK.out 0).trans rfl) (fun hHeld => ?_)
 clear hK K
 refine norm_ (a' := ?_) ?_ ?_
 rotate_left
 ·show Act.put _ (some 14) _ = _
  simp only [Act.put, List.setIfInBounds_toArray, List.set_cons_zero, List.set_cons_succ, i64_w, i32_w]
  rfl
 refine pure_ (i := 8) (N := some 3) (v := ?_) (a' := ?_) #[true, true, true, true, true, true, true, true, true] rfl rfl (any_of rfl (by kernel_rfl)) (fun _ _ _ h => h) (Or.inl ⟨by rfl, ?_⟩) ?_ ?_
 rotate_left
 ·intro w'
  go_simp
  with_reducible rfl
 rotate_left
 ·simp only [Act.put, List.setIfInBounds_toArray, List.set_cons_zero, List.set_cons_succ, i64_w, i32_w]
  rfl
 refine done_ (done_of rfl (by kernel_rfl)) ?_
 clear c0
 obtain ⟨gD, capD, hvD, _, hgl, cellsD, hcD⟩ := Kd.N_form HN.out (by have := HL1.out; omega)
 injection hvD with hA1 hlen_ hc1
 clear hlen_
 subst hA1
 subst hc1
 obtain ⟨ce, _, hFK, hcc, _⟩ := Kd.N_elem HN.out z30 (m : Int) (by omega) (by omega)
 have hgetD : L.getD (m : Int).toNat z30 = o := by rw [Int.toNat_natCast, List.getD_eq_getElem?_getD, HO_.out]; rfl
 rw [hgetD] at hFK
 obtain ⟨A2, c2, A3, c3, A4, c4, rfl, _, _, _, _, hl4, hF4⟩ := k30_openF hFK
 have e0 : w4.cell? ⟨gD, m * 5, none⟩ = some (.int .u8 o.f0) := hcc 0 _ rfl
 have e4 : w4.cell? ⟨gD, m * 5 + 4, none⟩ = some (.slice A4 o.f4.length c4) := hcc 4 _ rfl
 have q0 : (0 : Int) ≤ (m : Int) := Int.natCast_nonneg m
 have q1 : (m : Int) < (m : Int) + 1 := by omega
 clear hFK hcc hgetD hl4 hF4 hcD
 have hNT := Kd.N_take (m := m) HN.out (by have := HL1.out; omega)
 have hCT := (Kd.N_reads' hNT).2
 have hlt : (L.take m).length = m := by rw [List.length_take, HL1.out]; omega
 have hC4 := copyO_calls (some ⟨gD, 0, none⟩) cl (L.take m) w4 hCT.2 (by rw [hlt]; exact hCT.1) (by rw [hlt]; omega) (fun x hx => hsm x (List.mem_of_mem_take hx))
 rw [hlt] at hC4
 have HC4 := Aside0.mk hC4
 have hcm : m + 1 ≤ cl := (Kd.N_reads' HN.out).2.1
 rw [hp] at e4
 clear hNT hCT hlt hC4 hp
 go_wp2_with fail
 go_at_call 40
 refine HC4.out.mono ?_
 rintro e w5 ⟨v, rfl, hS, hb⟩
 have HS := Aside0.mk (Kd.S_lower hS HB.out.size)
 have HBB := Aside0.mk (below_step HB.out hb)
 clear hS hb HN HB
 go_wp2_with fail
 go_ret
 exact ⟨_, rfl, HS.out, HBB.out⟩
end Go.Proofs.Ytmjeoknamoegpaa.P
namespace Go.Proofs.Ytmjeoknamoegpaa.P
open Go.RowKit Go.Proofs.YtmjeoknamoegpaaW.PrintWords Go.Proofs.YtmjeoknamoegpaaW.PrintLast Go.Proofs.YtmjeoknamoegpaaW.PrintMore
set_option linter.unusedVariables false
set_option linter.unusedSimpArgs false
def retainP (n : Int) (pt : List S42) (D I : List S30) (g : Int) : List S30 :=
 match (D ++ gapP I g).getLast? with
 | some o => if o.f0 = 1 ∧ keyC o.f4 = keyC pt then (D ++ gapP I g).dropLast ++ [⟨o.f0, wrap64 (o.f1 + n), o.f2, o.f3, o.f4⟩] else D ++ gapP I g ++ [⟨1, n, [], [], pt⟩]
 | none => D ++ gapP I g ++ [⟨1, n, [], [], pt⟩]
def opsP (D I : List S30) (g : Int) : List S30 :=
 match (D ++ gapP I g).getLast? with
 | some o => if o.f0 = 1 ∧ o.f4.length = 0 then (D ++ gapP I g).dropLast else D ++ gapP I g
 | none => D ++ gapP I g
theorem last_split (l : List S30) (h : l ≠ []) : ∃ m o, l.length = m + 1 ∧ l[m]? = some o ∧ l.getLast? = some o ∧ l.dropLast = l.take m ∧ ∀ x, l.set (m : Int).toNat x = l.dropLast ++ [x] := by
 have hp := List.length_pos_iff.2 h
 refine ⟨l.length - 1, l.getLast h, by omega, ?_, List.getLast?_eq_some_getLast h, List.dropLast_eq_take, fun x => ?_⟩
 ·rw [List.getElem?_eq_getElem (by omega), List.getLast_eq_getElem]
 ·rw [Int.toNat_natCast]
  conv => lhs; rw [← List.dropLast_concat_getLast h]
  rw [List.set_append_right _ _ (by simp)]
  simp
theorem insert_calls (p : Nat) (D I : List S30) (g : Int) (base : Nat) (ok : Nat → Prop) (Al : Option Addr) (cl : Nat) (l : List Int) (As : Option Addr) (cs : Nat) (set : List S40) (w : World) (hM : Mk w base ok p D I g) (hbase : base ≤ w.heap.size) (hL : Kd.C (Kd.int .i32) w Al l.length l) (hcl : l.length ≤ cl) (hS : Kd.C k40 w As set.length set) (hcs : set.length ≤ cs) (hne : 0 < l.length) (hl : l.length ≤ 1000000) (hs : set.length ≤ 1000000) (hIl : I.length ≤ 900000) (hI2 : ∀ o ∈ I, o.f2.length ≤ 1000000) :
  Calls Try.prog 21 #[.pointer (some ⟨p, 0, none⟩), .slice Al l.length cl, .slice As set.length cs] w fun e w' => e = .returned (.tuple #[]) ∧ MkPost w base ok p D (insertP l set I) g w' := by
 unfold insertP
 by_cases hI : I = []
 ·subst hI
  simp only [List.getLast?_nil]
  exact insert_nil p D [] g base ok Al cl l As cs set w hM hbase hL hcl hS hcs hne hl hs (by simp) rfl
 ·obtain ⟨m, o, hm, ho, hgl, _, hset⟩ := last_split I hI
  rw [hgl]
  by_cases hk : keyA o.f3 = keyA set
  ·simp only [if_pos hk]
   have h := insert_same p D I g base ok Al cl l As cs set w hM hbase hL hcl hS hcs hne hl hs (by omega) m o hm ho hk (hI2 o (List.mem_of_getElem? ho))
   rw [hset] at h
   exact h
  ·simp only [if_neg hk]
   exact insert_new p D I g base ok Al cl l As cs set w hM hbase hL hcl hS hcs hne hl hs (by omega) m o hm ho hk
theorem retain_calls (p : Nat) (D I : List S30) (g : Int) (base : Nat) (ok : Nat → Prop) (n : Int) (Ap : Option Addr) (cp : Nat) (pt : List S42) (w : World) (hM : Mk w base ok p D I g) (hbase : base ≤ w.heap.size) (hC : ∀ w', Kept w w' ok → Below base w w' → Kd.C k42 w' Ap pt.length pt) (hcp : pt.length ≤ cp) (hn : 1 ≤ n) (hpl : pt.length ≤ 1000000) (hIl : I.length ≤ 900000) (hDl : D.length ≤ 900000) :
  Calls Try.prog 20 #[.pointer (some ⟨p, 0, none⟩), .int .i64 n, .slice Ap pt.length cp] w fun e w' => e = .returned (.tuple #[]) ∧ MkPost w base ok p (retainP n pt D I g) [] 0 w' := by
 unfold retainP
 have hgl := gapP_len I g
 by_cases h0 : D ++ gapP I g = []
 ·rw [h0]
  simp only [List.getLast?_nil]
  exact retain_0 p D I g base ok n Ap cp pt w hM hbase hC hcp hn hpl (by omega) (by omega) [] h0 rfl
 ·obtain ⟨m, o, hm, ho, hgl2, _, hset⟩ := last_split _ h0
  have hm1 : m + 1 ≤ 3000000 := by rw [List.length_append] at hm; omega
  rw [hgl2]
  by_cases hk : o.f0 = 1
  ·by_cases hq : keyC o.f4 = keyC pt
   ·simp only [if_pos (And.intro hk hq)]
    have h := retain_3 p D I g base ok n Ap cp pt w hM hbase hC hcp hn hpl (by omega) (by omega) _ rfl m o hm hm1 ho hk hq
    rw [hset] at h
    exact h
   ·simp only [if_neg (fun h : o.f0 = 1 ∧ _ => hq h.2)]
    exact retain_2 p D I g base ok n Ap cp pt w hM hbase hC hcp hn hpl (by omega) (by omega) _ rfl m o hm hm1 ho hk hq
  ·simp only [if_neg (fun h : o.f0 = 1 ∧ _ => hk h.1)]
   exact retain_1 p D I g base ok n Ap cp pt w hM hbase hC hcp hn hpl (by omega) (by omega) _ rfl m o hm hm1 ho hk
theorem ops_calls (p : Nat) (D I : List S30) (g : Int) (base : Nat) (ok : Nat → Prop) (w : World) (hM : Mk w base ok p D I g) (hIl : I.length ≤ 900000) (hDl : D.length ≤ 900000) (hsm : Small (D ++ gapP I g)) :
  Calls Try.prog 23 #[.pointer (some ⟨p, 0, none⟩)] w fun e w' => ∃ v : Value, e = .returned v ∧ Kd.S k30 30 w' w.heap.size (fun _ => True) v (opsP D I g) ∧ Below w.heap.size w w' := by
 unfold opsP
 by_cases h0 : D ++ gapP I g = []
 ·rw [h0]
  simp only [List.getLast?_nil]
  exact ops_0 p D I g base ok w hM (by omega) (by omega) [] h0 (by intro x hx; cases hx) rfl
 ·obtain ⟨m, o, hm, ho, hgl2, hdl, _⟩ := last_split _ h0
  rw [hgl2]
  by_cases hk : o.f0 = 1
  ·by_cases hq : o.f4.length = 0
   ·simp only [if_pos (And.intro hk hq)]
    rw [hdl]
    exact ops_3 p D I g base ok w hM (by omega) (by omega) _ rfl hsm m o hm ho hk hq
   ·simp only [if_neg (fun h : o.f0 = 1 ∧ _ => hq h.2)]
    exact ops_2 p D I g base ok w hM (by omega) (by omega) _ rfl hsm m o hm ho hk hq
  ·simp only [if_neg (fun h : o.f0 = 1 ∧ _ => hk h.1)]
   exact ops_1 p D I g base ok w hM (by omega) (by omega) _ rfl hsm m o hm ho hk
/-! ### calls that change nothing -/
set_option maxHeartbeats 1000000 in
set_option maxRecDepth 100000 in
theorem retain_idle (p : Nat) (D I : List S30) (g : Int) (base : Nat) (ok : Nat → Prop) (n : Int) (Ap : Option Addr) (l cp : Nat) (w : World) (hM : Mk w base ok p D I g) (hn : n < 1) :
  Calls Try.prog 20 #[.pointer (some ⟨p, 0, none⟩), .int .i64 n, .slice Ap l cp] w fun e w' => e = .returned (.tuple #[]) ∧ MkPost w base ok p D I g w' := by
 have HM := Aside0.mk hM
 clear hM
 have hn1 : decide (n < 1) = true := decide_eq_true hn
 go_enter Try.func20, Try.ntmps20
 go_wp2_with fail
 refine bodyPost_ret (results_none rfl _ _ _) rfl ?_
 exact ⟨rfl, Mk.mono HM.out (fun k hk => .inl hk), Kept.refl _ _, Below.refl _ _⟩
set_option maxHeartbeats 1000000 in
set_option maxRecDepth 100000 in
theorem insert_idle (p : Nat) (D I : List S30) (g : Int) (base : Nat) (ok : Nat → Prop) (Al : Option Addr) (cl : Nat) (As : Option Addr) (ls cs : Nat) (w : World) (hM : Mk w base ok p D I g) :
  Calls Try.prog 21 #[.pointer (some ⟨p, 0, none⟩), .slice Al 0 cl, .slice As ls cs] w fun e w' => e = .returned (.tuple #[]) ∧ MkPost w base ok p D I g w' := by
 have HM := Aside0.mk hM
 clear hM
 go_enter Try.func21, Try.ntmps21
 go_wp2_with fail
 refine bodyPost_ret (results_none rfl _ _ _) rfl ?_
 exact ⟨rfl, Mk.mono HM.out (fun k hk => .inl hk), Kept.refl _ _, Below.refl _ _⟩
/-! ### what a delta's ops come to -/
abbrev Stt := List S30 × List S30 × Int
def stepP (s : Stt) (o : S30) : Stt :=
 if o.f0 = 1 then (if o.f1 < 1 then s else (retainP o.f1 o.f4 s.1 s.2.1 s.2.2, [], 0))
 else if o.f0 = 2 then (if o.f2 = [] then s else (s.1, insertP o.f2 o.f3 s.2.1, s.2.2))
 else (s.1, s.2.1, deleteP o.f1 s.2.2)
def ofP (l : List S30) : List S30 := let s := l.foldl stepP ([], [], 0); opsP s.1 s.2.1 s.2.2
def tot (l : List S30) : Nat := (l.map fun o => o.f2.length).sum
def StOk (s : Stt) (k t : Nat) : Prop := s.1.length + s.2.1.length ≤ 2 * k ∧ ∀ x ∈ s.1 ++ s.2.1, x.f2.length ≤ t ∧ x.f3.length ≤ 100000 ∧ x.f4.length ≤ 100000
theorem gapP_mem {I : List S30} {g : Int} {x : S30} (h : x ∈ gapP I g) : x ∈ I ∨ x = ⟨3, g, [], [], []⟩ := by
 unfold gapP at h
 split at h
 ·rcases List.mem_append.1 h with h | h
  ·exact .inl h
  ·exact .inr (by simpa using h)
 ·exact .inl h
theorem StOk.step {s : Stt} {k t : Nat} (h : StOk s k t) (o : S30) (h3 : o.f3.length ≤ 100000) (h4 : o.f4.length ≤ 100000) : StOk (stepP s o) (k + 1) (t + o.f2.length) := by
 obtain ⟨D, I, g⟩ := s
 obtain ⟨hl, hx⟩ := h
 have hx' : ∀ x ∈ D ++ I, x.f2.length ≤ t + o.f2.length ∧ x.f3.length ≤ 100000 ∧ x.f4.length ≤ 100000 := fun x hx2 => ⟨by have := (hx x hx2).1; omega, (hx x hx2).2⟩
 have hD : ∀ x ∈ D ++ gapP I g, x.f2.length ≤ t + o.f2.length ∧ x.f3.length ≤ 100000 ∧ x.f4.length ≤ 100000 := by
  intro x hx2
  rcases List.mem_append.1 hx2 with h2 | h2
  ·exact hx' x (List.mem_append_left _ h2)
  ·rcases gapP_mem h2 with h2 | rfl
   ·exact hx' x (List.mem_append_right _ h2)
   ·simp
 have hgl := gapP_len I g
 simp only at hl
 unfold stepP
 split
 ·split
  ·exact ⟨by simp only; omega, hx'⟩
  ·refine ⟨?_, ?_⟩
   ·simp only [List.length_nil]
    unfold retainP
    split
    ·split
     ·simp only [List.length_append, List.length_dropLast, List.length_singleton]; omega
     ·simp only [List.length_append, List.length_singleton]; omega
    ·simp only [List.length_append, List.length_singleton]; omega
   ·intro x hx2
    simp only [List.append_nil] at hx2
    unfold retainP at hx2
    split at hx2
    ·rename_i b hb
     split at hx2
     ·rcases List.mem_append.1 hx2 with h2 | h2
      ·exact hD x (List.dropLast_subset _ h2)
      ·simp only [List.mem_singleton] at h2
       subst h2
       exact hD b (List.mem_of_getLast? hb)
     ·rcases List.mem_append.1 hx2 with h2 | h2
      ·exact hD x h2
      ·simp only [List.mem_singleton] at h2
       subst h2
       exact ⟨by simp, by simp, h4⟩
    ·rcases List.mem_append.1 hx2 with h2 | h2
     ·exact hD x h2
     ·simp only [List.mem_singleton] at h2
      subst h2
      exact ⟨by simp, by simp, h4⟩
 ·split
  ·split
   ·exact ⟨by simp only; omega, hx'⟩
   ·refine ⟨?_, ?_⟩
    ·simp only
     unfold insertP
     split
     ·rename_i b hb
      have hp : I ≠ [] := fun h0 => by subst h0; cases hb
      have hp2 := List.length_pos_iff.2 hp
      split
      ·simp only [List.length_append, List.length_dropLast, List.length_singleton]; omega
      ·simp only [List.length_append, List.length_singleton]; omega
     ·simp only [List.length_singleton]; omega
    ·intro x hx2
     simp only at hx2
     rcases List.mem_append.1 hx2 with h2 | h2
     ·exact hx' x (List.mem_append_left _ h2)
     ·unfold insertP at h2
      split at h2
      ·rename_i b hb
       have hbm := hx b (List.mem_append_right _ (List.mem_of_getLast? hb))
       split at h2
       ·rcases List.mem_append.1 h2 with h2 | h2
        ·exact hx' x (List.mem_append_right _ (List.dropLast_subset _ h2))
        ·simp only [List.mem_singleton] at h2
         subst h2
         exact ⟨by simp only [List.length_append]; omega, hbm.2⟩
       ·rcases List.mem_append.1 h2 with h2 | h2
        ·exact hx' x (List.mem_append_right _ h2)
        ·simp only [List.mem_singleton] at h2
         subst h2
         exact ⟨by simp, h3, by simp⟩
      ·simp only [List.mem_singleton] at h2
       subst h2
       exact ⟨by simp, h3, by simp⟩
  ·exact ⟨by simp only; omega, hx'⟩
theorem StOk.fold : ∀ (l : List S30) (s : Stt) (k t : Nat), StOk s k t → (∀ x ∈ l, x.f3.length ≤ 100000 ∧ x.f4.length ≤ 100000) → StOk (l.foldl stepP s) (k + l.length) (t + tot l)
 | [], s, k, t, h, _ => by simpa [tot] using h
 | o :: l, s, k, t, h, hs => by
  have h1 := h.step o (hs o (by simp)).1 (hs o (by simp)).2
  have h2 := StOk.fold l (stepP s o) (k + 1) (t + o.f2.length) h1 (fun x hx => hs x (by simp [hx]))
  have e1 : k + (o :: l).length = k + 1 + l.length := by simp; omega
  have e2 : t + tot (o :: l) = t + o.f2.length + tot l := by simp [tot]; omega
  rw [e1, e2]
  exact h2
end Go.Proofs.Ytmjeoknamoegpaa.P
namespace Go.Proofs.Ytmjeoknamoegpaa.P
open Go.RowKit Go.Proofs.YtmjeoknamoegpaaW.PrintWords Go.Proofs.YtmjeoknamoegpaaW.PrintLast Go.Proofs.YtmjeoknamoegpaaW.PrintMore
set_option linter.unusedVariables false
set_option linter.unusedSimpArgs false
def foldP (l : List S30) : Stt := l.foldl stepP ([], [], 0)
theorem foldP_succ (l : List S30) (k : Nat) (x : S30) (h : l[k]? = some x) : foldP (l.take (k + 1)) = stepP (foldP (l.take k)) x := by
 unfold foldP
 rw [List.take_add_one, h]
 simp [List.foldl_append]
theorem StOk.fold0 (l : List S30) (hs : ∀ x ∈ l, x.f3.length ≤ 100000 ∧ x.f4.length ≤ 100000) : StOk (foldP l) l.length (tot l) := by
 have h := StOk.fold l ([], [], 0) 0 0 ⟨by simp, by simp⟩ hs
 unfold foldP
 simpa using h
theorem tot_take (l : List S30) (k : Nat) : tot (l.take k) ≤ tot l := by
 have h := congrArg List.sum (List.take_append_drop k (l.map fun o => o.f2.length))
 rw [List.sum_append] at h
 simp only [tot, List.map_take]
 omega
theorem le_sum_mem : ∀ {l : List Nat} {x : Nat}, x ∈ l → x ≤ l.sum
 | y :: l, x, h => by
  rcases List.mem_cons.1 h with rfl | h
  ·simp
  ·have := le_sum_mem h; simp; omega
def normal_Of.f (l0 : List S30) : Option (List S30) := if l0.length ≤ 100000 ∧ tot l0 ≤ 100000 ∧ ∀ x ∈ l0, x.f3.length ≤ 100000 ∧ x.f4.length ≤ 100000 then some (ofP l0) else none
def OfInv (w wr : World) (p : Nat) (s : Stt) : Prop := Below w.heap.size w wr ∧ Mk wr w.heap.size (fun b => w.heap.size ≤ b) p s.1 s.2.1 s.2.2
theorem OfInv.of {w wr w' : World} {p : Nat} {s s' : Stt} (h : OfInv w wr p s) (h2 : MkPost wr w.heap.size (fun b => w.heap.size ≤ b) p s'.1 s'.2.1 s'.2.2 w') : OfInv w w' p s' :=
 ⟨h.1.trans h2.2.2, Mk.mono h2.1 (fun k hk => hk.elim id (fun h3 => Nat.le_trans h.1.size h3))⟩
theorem OfInv.up {w wr w2 : World} {p : Nat} {s : Stt} (h : OfInv w wr p s) (hb : Below wr.heap.size wr w2) : OfInv w w2 p s := ⟨below_step h.1 hb, Mk.below h.2 hb⟩
theorem ret_case (w w2 : World) (p : Nat) (s : Stt) (x : S30) (k t : Nat) (hI : OfInv w w2 p s) (hst : StOk s k t) (hk : k ≤ 100000) (h1 : x.f0 = 1) (A4 : Option Addr) (c4 : Nat) (f4 : Kd.C k42 w A4 x.f4.length x.f4) (hl : x.f4.length ≤ c4) (hx4 : x.f4.length ≤ 100000) :
  Calls Try.prog 20 #[.pointer (some ⟨p, 0, none⟩), .int .i64 x.f1, .slice A4 x.f4.length c4] w2 fun e w' => e = .returned (.tuple #[]) ∧ OfInv w w' p (stepP s x) := by
 have hb := hst.1
 unfold stepP
 rw [if_pos h1]
 by_cases hn : x.f1 < 1
 ·rw [if_pos hn]
  refine (retain_idle p s.1 s.2.1 s.2.2 w.heap.size _ x.f1 A4 x.f4.length c4 w2 hI.2 hn).mono ?_
  rintro e w' ⟨rfl, h⟩
  exact ⟨rfl, hI.of h⟩
 ·rw [if_neg hn]
  refine (retain_calls p s.1 s.2.1 s.2.2 w.heap.size _ x.f1 A4 c4 x.f4 w2 hI.2 hI.1.size (fun w' _ hb => Kd.C_below f4 (hI.1.trans hb)) hl (by omega) (by omega) (by omega) (by omega)).mono ?_
  rintro e w' ⟨rfl, h⟩
  exact ⟨rfl, hI.of (s' := (retainP x.f1 x.f4 s.1 s.2.1 s.2.2, [], 0)) h⟩
theorem ins_case (w w2 : World) (p : Nat) (s : Stt) (x : S30) (k t : Nat) (hI : OfInv w w2 p s) (hst : StOk s k t) (hk : k ≤ 100000) (ht : t ≤ 100000) (h1 : x.f0 = 2) (A2 : Option Addr) (c2 : Nat) (f2 : Kd.C (Kd.int .i32) w A2 x.f2.length x.f2) (hl2 : x.f2.length ≤ c2) (hx2 : x.f2.length ≤ 100000) (A3 : Option Addr) (c3 : Nat) (f3 : Kd.C k40 w A3 x.f3.length x.f3) (hl3 : x.f3.length ≤ c3) (hx3 : x.f3.length ≤ 100000) :
  Calls Try.prog 21 #[.pointer (some ⟨p, 0, none⟩), .slice A2 x.f2.length c2, .slice A3 x.f3.length c3] w2 fun e w' => e = .returned (.tuple #[]) ∧ OfInv w w' p (stepP s x) := by
 have hb := hst.1
 unfold stepP
 rw [if_neg (by omega), if_pos h1]
 by_cases hn : x.f2 = []
 ·rw [if_pos hn]
  have h0 : x.f2.length = 0 := by simp [hn]
  rw [h0]
  refine (insert_idle p s.1 s.2.1 s.2.2 w.heap.size _ A2 c2 A3 x.f3.length c3 w2 hI.2).mono ?_
  rintro e w' ⟨rfl, h⟩
  exact ⟨rfl, hI.of h⟩
 ·rw [if_neg hn]
  refine (insert_calls p s.1 s.2.1 s.2.2 w.heap.size _ A2 c2 x.f2 A3 c3 x.f3 w2 hI.2 hI.1.size (Kd.C_below f2 hI.1) hl2 (Kd.C_below f3 hI.1) hl3 (List.length_pos_iff.2 hn) (by omega) (by omega) (by omega) (fun o ho => Nat.le_trans (hst.2 o (List.mem_append_right _ ho)).1 (by omega))).mono ?_
  rintro e w' ⟨rfl, h⟩
  exact ⟨rfl, hI.of (s' := (s.1, insertP x.f2 x.f3 s.2.1, s.2.2)) h⟩
theorem del_case (w w2 : World) (p : Nat) (s : Stt) (x : S30) (hI : OfInv w w2 p s) (h1 : x.f0 ≠ 1) (h2 : x.f0 ≠ 2) :
  Calls Try.prog 22 #[.pointer (some ⟨p, 0, none⟩), .int .i64 x.f1] w2 fun e w' => e = .returned (.tuple #[]) ∧ OfInv w w' p (stepP s x) := by
 unfold stepP
 rw [if_neg h1, if_neg h2]
 refine (delete_calls p x.f1 s.2.2 s.1 s.2.1 w.heap.size _ w2 hI.2).mono ?_
 rintro e w' ⟨rfl, h⟩
 exact ⟨rfl, hI.of (s' := (s.1, s.2.1, deleteP x.f1 s.2.2)) h⟩
theorem small_of {s : Stt} {k t : Nat} (h : StOk s k t) (ht : t ≤ 1000000) : Small (s.1 ++ gapP s.2.1 s.2.2) := by
 intro x hx
 rcases List.mem_append.1 hx with h2 | h2
 ·obtain ⟨a, b, c⟩ := h.2 x (List.mem_append_left _ h2); omega
 ·rcases gapP_mem h2 with h2 | rfl
  ·obtain ⟨a, b, c⟩ := h.2 x (List.mem_append_right _ h2); omega
  ·simp
set_option maxHeartbeats 4000000 in
set_option maxRecDepth 100000 in
theorem of_walk (A0 : Option Addr) (c0 : Nat) (l0 : List S30) (w : World) (hr0 : Kd.C k30 w A0 l0.length l0) (hc0 : l0.length ≤ c0) (h1 : l0.length ≤ 100000) (h2 : tot l0 ≤ 100000) (h3 : ∀ x ∈ l0, x.f3.length ≤ 100000 ∧ x.f4.length ≤ 100000) :
  Calls Try.prog 12 #[.slice A0 l0.length c0] w fun e w' => ∃ v0_ : Value, e = .returned (v0_) ∧ Kd.S k30 30 w' w.heap.size (fun _ => True) v0_ (ofP l0) ∧ Below w.heap.size w w' := by
 have HR := Aside0.mk hr0
 have H1 := Aside0.mk h1
 have H2 := Aside0.mk h2
 have H3 := Aside0.mk h3
 clear hr0 h3 h2
 go_enter Try.func12, Try.ntmps12
 go_wp2_with fail
 go_step3
 go_wp2_with fail
 go_at_call 19
 refine (new_calls w).mono ?_
 rintro e w1 ⟨rfl, rfl⟩
 have HI := Aside0.mk (show OfInv w _ w.heap.size (foldP (l0.take 0)) from ⟨below_alloc (Below.refl _ _) _, Mk_new w w.heap.size (Nat.le_refl _)⟩)
 go_wp2_with fail
 generalize w.alloc (.cells #[.slice none 0 0, .slice none 0 0, .int .i64 0] 46) = w1 at HI ⊢
 go_step3
 go_wp2_with fail
 go_loopw [9] (fun i wr => ∃ k : Nat, k ≤ l0.length ∧ i = .int .i64 k ∧ Aside0 (OfInv w wr w.heap.size (foldP (l0.take k)))) (fun i _ => l0.length - (intOf i).toNat)
 case atStart => exact ⟨0, Nat.zero_le _, rfl, HI⟩
 case round =>
  clear HI
  obtain ⟨k, hk, rfl, HI⟩ := hrel
  by_cases hlt : k < l0.length
  ·obtain ⟨x, hx⟩ : ∃ x, l0[k]? = some x := ⟨_, List.getElem?_eq_getElem hlt⟩
   have hB := HI.out.1
   have hrd : rd_T30 l0 (k : Int) = x := by rw [rd30_get l0 k hlt]; exact (List.getElem?_eq_some_iff.1 hx).2
   obtain ⟨ad, A2, c2, A3, c3, A4, c4, eA, e0, e1, e2, e3, e4, l2, f2, l3, f3, l4, f4⟩ := at_T30 HR.out (k : Int) (by omega) (by omega)
   rw [hrd] at e0 e1 e2 e3 e4 l2 f2 l3 f3 l4 f4
   simp only [Int.toNat_natCast] at e0 e1 e2 e3 e4
   replace e0 := (hB.cell (World.block_lt_of_cell? _ _ e0)).trans e0
   replace e1 := (hB.cell (World.block_lt_of_cell? _ _ e1)).trans e1
   replace e2 := (hB.cell (World.block_lt_of_cell? _ _ e2)).trans e2
   replace e3 := (hB.cell (World.block_lt_of_cell? _ _ e3)).trans e3
   replace e4 := (hB.cell (World.block_lt_of_cell? _ _ e4)).trans e4
   have q1 : (k : Int) < (l0.length : Int) := by omega
   have q0 : (0 : Int) ≤ (k : Int) := Int.natCast_nonneg k
   subst eA
   have F2 := Aside0.mk f2
   have F3 := Aside0.mk f3
   have F4 := Aside0.mk f4
   have HX := Aside0.mk hx
   clear hB hrd f2 f3 f4 hx
   have hxm : x ∈ l0 := List.mem_of_getElem? HX.out
   obtain ⟨hx3, hx4⟩ := H3.out x hxm
   have hx2 : x.f2.length ≤ 100000 := Nat.le_trans (le_sum_mem (List.mem_map.2 ⟨x, hxm, rfl⟩)) H2.out
   clear hxm
   have hst := StOk.fold0 (l0.take k) (fun y hy => H3.out y (List.mem_of_mem_take hy))
   have htk := tot_take l0 k
   have hlk : (l0.take k).length = k := by rw [List.length_take]; omega
   rw [hlk] at hst
   have HST := Aside0.mk hst
   have HTK := Aside0.mk htk
   clear hst htk hlk
   have hst1 : foldP (l0.take (k + 1)) = stepP (foldP (l0.take k)) x := foldP_succ l0 k x HX.out
   have HS1 := Aside0.mk hst1
   clear hst1
   by_cases h1 : x.f0 = 1
   ·have hb1 : (x.f0 == 1) = true := beq_iff_eq.2 h1
    go_wp2_with fail
    go_at_call 20
    have hb2 := below_alloc (Below.refl wr.heap.size wr) (.cells #[.int .u8 1, .int .i64 x.f1, .slice A2 x.f2.length c2, .slice A3 x.f3.length c3, .slice A4 x.f4.length c4] 30)
    generalize wr.alloc (.cells #[.int .u8 1, .int .i64 x.f1, .slice A2 x.f2.length c2, .slice A3 x.f3.length c3, .slice A4 x.f4.length c4] 30) = w2 at hb2 ⊢
    refine (ret_case w w2 w.heap.size _ x k _ (HI.out.up hb2) HST.out (by omega) h1 A4 c4 F4.out l4 hx4).mono ?_
    rintro e w3 ⟨rfl, h⟩
    rw [← HS1.out] at h
    have HN := Aside0.mk h
    clear h hb2 HI
    go_wp2_with fail
    go_roundw
    case rel => exact ⟨k + 1, by omega, by go_num, HN⟩
    case measure => simp [intOf]; omega
   ·by_cases h2 : x.f0 = 2
    ·have hb1 : (x.f0 == 1) = false := beq_eq_false_iff_ne.2 h1
     have hb1' : (x.f0 == 2) = true := beq_iff_eq.2 h2
     go_wp2_with fail
     go_at_call 21
     have hb2 := below_alloc (Below.refl wr.heap.size wr) (.cells #[.int .u8 2, .int .i64 x.f1, .slice A2 x.f2.length c2, .slice A3 x.f3.length c3, .slice A4 x.f4.length c4] 30)
     generalize wr.alloc (.cells #[.int .u8 2, .int .i64 x.f1, .slice A2 x.f2.length c2, .slice A3 x.f3.length c3, .slice A4 x.f4.length c4] 30) = w2 at hb2 ⊢
     refine (ins_case w w2 w.heap.size _ x k _ (HI.out.up hb2) HST.out (by omega) (by have := HTK.out; have := H2.out; omega) h2 A2 c2 F2.out l2 hx2 A3 c3 F3.out l3 hx3).mono ?_
     rintro e w3 ⟨rfl, h⟩
     rw [← HS1.out] at h
     have HN := Aside0.mk h
     clear h hb2 HI
     go_wp2_with fail
     go_roundw
     case rel => exact ⟨k + 1, by omega, by go_num, HN⟩
     case measure => simp [intOf]; omega
    ·have hb1 : (x.f0 == 1) = false := beq_eq_false_iff_ne.2 h1
     have hb1' : (x.f0 == 2) = false := beq_eq_false_iff_ne.2 h2
     go_wp2_with fail
     go_at_call 22
     have hb2 := below_alloc (Below.refl wr.heap.size wr) (.cells #[.int .u8 x.f0, .int .i64 x.f1, .slice A2 x.f2.length c2, .slice A3 x.f3.length c3, .slice A4 x.f4.length c4] 30)
     generalize wr.alloc (.cells #[.int .u8 x.f0, .int .i64 x.f1, .slice A2 x.f2.length c2, .slice A3 x.f3.length c3, .slice A4 x.f4.length c4] 30) = w2 at hb2 ⊢
     refine (del_case w w2 w.heap.size _ x (HI.out.up hb2) h1 h2).mono ?_
     rintro e w3 ⟨rfl, h⟩
     rw [← HS1.out] at h
     have HN := Aside0.mk h
     clear h hb2 HI
     go_wp2_with fail
     go_roundw
     case rel => exact ⟨k + 1, by omega, by go_num, HN⟩
     case measure => simp [intOf]; omega
  ·obtain rfl : k = l0.length := by omega
   go_wp2_with fail
   rw [List.take_length] at HI
   have hst := StOk.fold0 l0 H3.out
   have hb := hst.1
   go_at_call 23
   refine (ops_calls w.heap.size (foldP l0).1 (foldP l0).2.1 (foldP l0).2.2 w.heap.size _ wr HI.out.2 (by omega) (by omega) (small_of hst (by have := H2.out; omega))).mono ?_
   rintro e w3 ⟨v, rfl, hS, hb3⟩
   have HS := Aside0.mk (Kd.S_lower hS HI.out.1.size)
   have HBB := Aside0.mk (below_step HI.out.1 hb3)
   clear hS hb3 hst hb
   go_wp2_with fail
   rw [Exit.noGoto_ret]
   go_ret
   exact ⟨_, rfl, HS.out, HBB.out⟩
theorem normal_Of.calls (A0 : Option Addr) (c0 : Nat) (l0 : List (S30)) (r : List (S30)) (w : World) (hr0 : Kd.C k30 w A0 l0.length l0) (hc0 : l0.length ≤ c0) (h : normal_Of.f l0 = some r) :
  Calls Try.prog 12 #[.slice A0 l0.length c0] w fun e w' => ∃ v0_ : Value, e = .returned (v0_) ∧ Kd.S k30 30 w' w.heap.size (fun _ => True) v0_ r ∧ Below w.heap.size w w' := by
 unfold normal_Of.f at h
 split at h
 ·rename_i hc
  obtain rfl := Option.some.inj h
  exact of_walk A0 c0 l0 w hr0 hc0 hc.1 hc.2.1 hc.2.2
 ·cases h
end Go.Proofs.Ytmjeoknamoegpaa.P
