-- by hand (printed by wip/tools/gen_ins.py): (*normal.Maker).Insert
import Derived.WalkSpells
import Derived.Test.YtmjeoknamoegpaaMaker
namespace Go.Proofs.Ytmjeoknamoegpaa.P
open Go.RowKit Go.Proofs.YtmjeoknamoegpaaW.PrintWords Go.Proofs.YtmjeoknamoegpaaW.PrintLast Go.Proofs.YtmjeoknamoegpaaW.PrintMore
set_option linter.unusedVariables false
set_option linter.unusedSimpArgs false

theorem cloneI_eq (l : List Int) (h : l.length ≤ 1000000) : slices_Clone_int32_int32.f l = some l := by
  unfold slices_Clone_int32_int32.f
  simp; omega
theorem copyA_eq (l : List S40) (h : l.length ≤ 1000000) : attrs_Copy.f l = some l := by
  unfold attrs_Copy.f api_Attr_50.f
  simp; omega
theorem copyC_eq (l : List S42) (h : l.length ≤ 1000000) : patch_Copy.f l = some l := by
  unfold patch_Copy.f api_Change_49.f
  simp; omega
def insertP (l : List Int) (set : List S40) (I : List S30) : List S30 :=
  match I.getLast? with
  | some o => if keyA o.f3 = keyA set then I.dropLast ++ [⟨o.f0, o.f1, o.f2 ++ l, o.f3, o.f4⟩] else I ++ [⟨2, 0, l, set, []⟩]
  | none => [⟨2, 0, l, set, []⟩]

theorem Kd.S_ok {α : Type} {d : Kd α} {e : Nat} {w : World} {base : Nat} {ok : Nat → Prop} {v : Value} {xs : List α} (h : Kd.S d e w base ok v xs) : ∀ k, v.ownBlock = some k → ok k := (Kd.S_R h).1
set_option maxHeartbeats 4000000 in
set_option maxRecDepth 100000 in
theorem insert_nil (p : Nat) (D I : List S30) (g : Int) (base : Nat) (ok : Nat → Prop) (Al : Option Addr) (cl : Nat) (l : List Int) (As : Option Addr) (cs : Nat) (set : List S40) (w : World) (hM : Mk w base ok p D I g) (hbase : base ≤ w.heap.size) (hL : Kd.C (Kd.int .i32) w Al l.length l) (hcl : l.length ≤ cl) (hS : Kd.C k40 w As set.length set) (hcs : set.length ≤ cs) (hne : 0 < l.length) (hl : l.length ≤ 1000000) (hs : set.length ≤ 1000000) (hIl : I.length ≤ 1000000) (hI0 : I = []) :
    Calls Try.prog 21 #[.pointer (some ⟨p, 0, none⟩), .slice Al l.length cl, .slice As set.length cs] w fun e w' => e = .returned (.tuple #[]) ∧ MkPost w base ok p D (I ++ [⟨2, 0, l, set, []⟩]) g w' := by
  obtain ⟨vD, vI, okD, okI, h1, h2, h3, h4, h5, h6, h7⟩ := hM.bound
  have BK := Aside0.mk h1
  have HP := Aside0.mk (blk_lt h1)
  have HD := Aside0.mk h4
  have HI := Aside0.mk h5
  have H6 : Aside0 (∀ k, okD k → base ≤ k ∧ ok k ∧ k ≠ p ∧ k < w.heap.size) := Aside0.mk (fun k hk => ⟨(h6 k hk).1, (h6 k hk).2.1.1, (h6 k hk).2.2, (h6 k hk).2.1.2⟩)
  have H7 : Aside0 (∀ k, okI k → base ≤ k ∧ ok k ∧ k ≠ p ∧ ¬ okD k ∧ k < w.heap.size) := Aside0.mk (fun k hk => ⟨(h7 k hk).1, (h7 k hk).2.1.1, (h7 k hk).2.2.1, (h7 k hk).2.2.2, (h7 k hk).2.1.2⟩)
  have H3 := Aside0.mk h3.1
  have HK := Aside0.mk (Kept.refl w ok)
  have HB := Aside0.mk (Below.refl base w)
  have HZ := Aside0.mk (Nat.le_refl w.heap.size)
  obtain ⟨Ai, ci, hvI⟩ := Kd.S_slice h5
  have c0 : w.cell? ⟨p, 1, none⟩ = some (.slice Ai 0 ci) := by simp [World.cell?, h1, hvI, hI0]
  have hlz : ((l.length : Int) == 0) = false := beq_eq_false_iff_ne.2 (by omega)
  have HL := Aside0.mk hL
  have HS := Aside0.mk hS
  clear h1 h3 h4 h5 h6 h7 hM hL hS hvI hI0
  have hl1 : (0 : Int) < l.length := by omega
  go_enter Try.func21, Try.ntmps21
  go_wp2_with fail
  refine start_ (n := 15) (S := fun w' => w'.cell? ⟨p, 1, none⟩ = some vI) (ds := [14]) #[false, false, false, false, false, false, false, false, false, false, false, false, false, false, false] (by kernel_rfl) rfl rfl ((blk_cell (w := w.drew) BK.out 1).trans rfl) (fun hHeld => ?_)
  have hb := below_drew (Below.refl w.heap.size w)
  generalize w.drew = w2 at hb hHeld ⊢
  replace BK := Aside0.mk (blk_below BK.out hb)
  replace HD := Aside0.mk (Kd.N_below HD.out hb)
  replace HI := Aside0.mk (Kd.S_below HI.out hb)
  replace HB := Aside0.mk (below_then HB.out (Nat.le_trans hbase HZ.out) hb)
  replace HK := Aside0.mk (HK.out.below hb)
  replace HZ := Aside0.mk (Nat.le_trans HZ.out hb.size)
  replace HL := Aside0.mk (Kd.C_below HL.out hb)
  replace HS := Aside0.mk (Kd.C_below HS.out hb)
  clear hb
  refine pure_ (i := 0) (N := some 51) (v := ?_) (a' := ?_) #[true, false, false, false, false, false, false, false, false, false, false, false, false, false, false] rfl rfl (any_of rfl (by kernel_rfl)) (fun _ _ _ h => h) (Or.inl ⟨by rfl, ?_⟩) ?_ ?_
  rotate_left
  · intro w'
    go_simp
    with_reducible rfl
  rotate_left
  · simp only [Act.put, List.setIfInBounds_toArray, List.set_cons_zero, List.set_cons_succ, i64_w, i32_w]
    rfl
  refine pure_ (i := 1) (N := some 52) (v := ?_) (a' := ?_) #[true, true, false, false, false, false, false, false, false, false, false, false, false, false, false] rfl rfl (any_of rfl (by kernel_rfl)) (fun _ _ _ h => h) (Or.inl ⟨by rfl, ?_⟩) ?_ ?_
  rotate_left
  · intro w'
    go_simp
    with_reducible rfl
  rotate_left
  · simp only [Act.put, List.setIfInBounds_toArray, List.set_cons_zero, List.set_cons_succ, i64_w, i32_w]
    rfl
  refine pure_ (i := 2) (N := some 53) (v := ?_) (a' := ?_) #[true, true, true, false, false, false, false, false, false, false, false, false, false, false, false] rfl rfl (any_of rfl (by kernel_rfl)) (fun _ _ _ h => h) (Or.inl ⟨by rfl, ?_⟩) ?_ ?_
  rotate_left
  · intro w'
    go_simp
    with_reducible rfl
  rotate_left
  · simp only [Act.put, List.setIfInBounds_toArray, List.set_cons_zero, List.set_cons_succ, i64_w, i32_w]
    rfl
  refine pure_ (i := 3) (N := some 54) (v := ?_) (a' := ?_) #[true, true, true, true, false, false, false, false, false, false, false, false, false, false, false] rfl rfl (any_of rfl (by kernel_rfl)) (fun _ _ _ h => h) (Or.inl ⟨by rfl, ?_⟩) ?_ ?_
  rotate_left
  · intro w'
    go_simp
    with_reducible rfl
  rotate_left
  · simp only [Act.put, List.setIfInBounds_toArray, List.set_cons_zero, List.set_cons_succ, i64_w, i32_w]
    rfl
  refine take_ (i := 4) (N := some 55) (v := ?_) (a' := ?_) #[true, true, true, true, true, false, false, false, false, false, false, false, false, false, false] rfl rfl (take_of rfl (by kernel_rfl)) (fun _ _ _ h => h) (Or.inl ⟨by rfl, ?_⟩) hHeld ?_ ?_
  rotate_left
  · rintro w' s0
    go_simp
    with_reducible rfl
  rotate_left
  · simp only [Act.put, List.setIfInBounds_toArray, List.set_cons_zero, List.set_cons_succ, i64_w, i32_w]
    rfl
  refine pure_ (i := 5) (N := some 56) (v := ?_) (a' := ?_) #[true, true, true, true, true, true, false, false, false, false, false, false, false, false, false] rfl rfl (any_of rfl (by kernel_rfl)) (fun _ _ _ h => h) (Or.inl ⟨by rfl, ?_⟩) ?_ ?_
  rotate_left
  · intro w'
    go_simp
    with_reducible rfl
  rotate_left
  · simp only [Act.put, List.setIfInBounds_toArray, List.set_cons_zero, List.set_cons_succ, i64_w, i32_w]
    rfl
  refine pure_ (i := 7) (N := some 58) (v := ?_) (a' := ?_) #[true, true, true, true, true, true, false, true, false, false, false, false, false, false, false] rfl rfl (any_of rfl (by kernel_rfl)) (fun _ _ _ h => h) (Or.inl ⟨by rfl, ?_⟩) ?_ ?_
  rotate_left
  · intro w'
    go_simp
    with_reducible rfl
  rotate_left
  · simp only [Act.put, List.setIfInBounds_toArray, List.set_cons_zero, List.set_cons_succ, i64_w, i32_w]
    rfl
  refine one_ (i := 6) (N := some 57) #[true, true, true, true, true, true, true, true, false, false, false, false, false, false, false] rfl rfl (one_of rfl (by kernel_rfl)) (by decide) (fun K hK => ?_)
  refine goes_ Try.func37 (by kernel_rfl) rfl #[.slice Al l.length cl] (by rfl) rfl rfl (by (try simp only [List.map_toArray, List.map_cons, List.map_nil]); first | done | rfl) ?_
  refine (slices_Clone_int32_int32.calls Al cl l l _ HL.out hcl (cloneI_eq l hl)).mono ?_
  rintro e w3 ⟨v1, rfl, hv1, hb⟩
  have V1 := Aside0.mk (Kd.R_mono (Kd.R_lower (Kd.R_bound hv1) (Nat.le_trans hbase HZ.out)) (fun k hk => (⟨Nat.le_trans HZ.out hk.2.1, hk.2.2.1⟩ : w.heap.size ≤ k ∧ k < w3.heap.size)))
  replace BK := Aside0.mk (blk_below BK.out hb)
  replace HD := Aside0.mk (Kd.N_below HD.out hb)
  replace HI := Aside0.mk (Kd.S_below HI.out hb)
  replace HB := Aside0.mk (below_then HB.out (Nat.le_trans hbase HZ.out) hb)
  replace HK := Aside0.mk (HK.out.below hb)
  replace HZ := Aside0.mk (Nat.le_trans HZ.out hb.size)
  replace HS := Aside0.mk (Kd.C_below HS.out hb)
  clear hv1 hb
  refine ⟨_, rfl, ?_⟩
  refine hK.out _ _ ((blk_cell BK.out 1).trans rfl) (fun hHeld => ?_)
  clear hK K
  refine norm_ (a' := ?_) ?_ ?_
  rotate_left
  · show Act.put _ (some 57) _ = _
    simp only [Act.put, List.setIfInBounds_toArray, List.set_cons_zero, List.set_cons_succ, i64_w, i32_w]
    rfl
  refine one_ (i := 8) (N := some 59) #[true, true, true, true, true, true, true, true, true, false, false, false, false, false, false] rfl rfl (one_of rfl (by kernel_rfl)) (by decide) (fun K hK => ?_)
  refine goes_ Try.func38 (by kernel_rfl) rfl #[.slice As set.length cs] (by rfl) rfl rfl (by (try simp only [List.map_toArray, List.map_cons, List.map_nil]); first | done | rfl) ?_
  refine (attrs_Copy.calls As cs set set _ HS.out hcs (copyA_eq set hs)).mono ?_
  rintro e w4 ⟨v2, rfl, hv2, hb⟩
  have V2 := Aside0.mk (Kd.R_mono (Kd.R_lower (Kd.R_bound hv2) (Nat.le_trans hbase HZ.out)) (fun k hk => (⟨Nat.le_trans HZ.out hk.2.1, hk.2.2.1⟩ : w.heap.size ≤ k ∧ k < w4.heap.size)))
  replace BK := Aside0.mk (blk_below BK.out hb)
  replace HD := Aside0.mk (Kd.N_below HD.out hb)
  replace HI := Aside0.mk (Kd.S_below HI.out hb)
  replace HB := Aside0.mk (below_then HB.out (Nat.le_trans hbase HZ.out) hb)
  replace HK := Aside0.mk (HK.out.below hb)
  replace HZ := Aside0.mk (Nat.le_trans HZ.out hb.size)
  replace V1 := Aside0.mk (Kd.R_mono (Kd.R_below V1.out hb) (fun k hk => (⟨hk.1, Nat.lt_of_lt_of_le hk.2 hb.size⟩ : w.heap.size ≤ k ∧ k < w4.heap.size)))
  clear hv2 hb
  refine ⟨_, rfl, ?_⟩
  refine hK.out _ _ ((blk_cell BK.out 1).trans rfl) (fun hHeld => ?_)
  clear hK K
  refine norm_ (a' := ?_) ?_ ?_
  rotate_left
  · show Act.put _ (some 59) _ = _
    simp only [Act.put, List.setIfInBounds_toArray, List.set_cons_zero, List.set_cons_succ, i64_w, i32_w]
    rfl
  obtain ⟨A1, c1_, rfl⟩ := Kd.R_slice V1.out
  obtain ⟨A2, c2_, rfl⟩ := Kd.R_slice V2.out
  refine pure_ (i := 9) (N := some 60) (v := ?_) (a' := ?_) #[true, true, true, true, true, true, true, true, true, true, false, false, false, false, false] rfl rfl (any_of rfl (by kernel_rfl)) (fun _ _ _ h => h) (Or.inl ⟨by rfl, ?_⟩) ?_ ?_
  rotate_left
  · intro w'
    go_simp
    with_reducible rfl
  rotate_left
  · simp only [Act.put, List.setIfInBounds_toArray, List.set_cons_zero, List.set_cons_succ, i64_w, i32_w]
    rfl
  refine one_ (i := 10) (N := some 61) #[true, true, true, true, true, true, true, true, true, true, true, false, false, false, false] rfl rfl (one_of rfl (by kernel_rfl)) (by decide) (fun K hK => ?_)
  refine value_ (w1 := ?_) (v := ?_) (by rfl) rfl ?_ ?_
  rotate_left 2
  · go_simp
    constructor
    · rfl
    · rfl
  refine hK.out _ _ ((blk_cell (blk_alloc BK.out _) 1).trans rfl) (fun hHeld => ?_)
  clear hK K
  refine norm_ (a' := ?_) ?_ ?_
  rotate_left
  · show Act.put _ (some 61) _ = _
    simp only [Act.put, List.setIfInBounds_toArray, List.set_cons_zero, List.set_cons_succ, i64_w, i32_w]
    rfl
  refine one_ (i := 11) (N := some 62) #[true, true, true, true, true, true, true, true, true, true, true, true, false, false, false] rfl rfl (one_of rfl (by kernel_rfl)) (by decide) (fun K hK => ?_)
  refine Kd.S_append_step k30 (w0 := w) base (by rfl) (.tmp 55) (.tmp 61) 23 30 (.agg #[(.int .u8 0), (.int .i64 0), (.slice none 0 0), (.slice none 0 0), (.slice none 0 0)]) 88 rfl Try.underlying23 info30 rfl (by decide) (by omega) vI I (⟨2, 0, l, set, []⟩ : S30) [.int .u8 2, .int .i64 0, .slice A1 l.length c1_, .slice A2 set.length c2_, .slice none 0 0] (fun k => okI k ∨ w.heap.size ≤ k) (fun k => w.heap.size ≤ k ∧ k < w4.heap.size) rfl rfl ?aP ?aQ ?aF ?aO ?aB ?aS ?aL ?_
  (case aP => exact k30_mkM _ _ _ (⟨2, 0, l, set, []⟩ : S30) V1.out V2.out (Kd.R_nil _ _ _ _ _))
  (case aQ => exact fun k hk => ⟨.inr hk.1, fun e_ => by have := (H7.out k (Kd.S_ok HI.out k e_.symm)).2.2.2.2; omega⟩)
  (case aF => exact fun k hk => .inr (Nat.le_trans HZ.out hk))
  (case aO => exact Kd.S_mono HI.out (fun k hk => ⟨.inl hk, fun h_ => by have := (H7.out k hk).2.2.2.2; omega⟩))
  (case aB => exact HB.out)
  (case aS => exact Nat.le_trans hbase HZ.out)
  (case aL => omega)
  intro v3 w5 ho hb hg hat
  obtain ⟨A3, c3_, rfl⟩ := Kd.S_slice ho
  replace BK := Aside0.mk (blk_grown BK.out hg (fun e_ => (H7.out p (Kd.S_ok HI.out p e_.symm)).2.2.1 rfl))
  replace HD := Aside0.mk (Kd.N_grown HD.out hg (fun k hk e_ => (H7.out k (Kd.S_ok HI.out k e_.symm)).2.2.2.1 hk))
  replace HK := Aside0.mk (Kept.of_grown hg HK.out (fun k e_ => .inl (H7.out k (Kd.S_ok HI.out k e_)).2.1))
  replace HI := Aside0.mk ho
  replace HB := Aside0.mk hb
  clear ho hb hg hat
  refine hK.out _ _ ((blk_cell BK.out 1).trans rfl) (fun hHeld => ?_)
  clear hK K
  refine norm_ (a' := ?_) ?_ ?_
  rotate_left
  · show Act.put _ (some 62) _ = _
    simp only [Act.put, List.setIfInBounds_toArray, List.set_cons_zero, List.set_cons_succ, i64_w, i32_w]
    rfl
  refine pure_ (i := 12) (N := some 63) (v := ?_) (a' := ?_) #[true, true, true, true, true, true, true, true, true, true, true, true, true, false, false] rfl rfl (any_of rfl (by kernel_rfl)) (fun _ _ _ h => h) (Or.inl ⟨by rfl, ?_⟩) ?_ ?_
  rotate_left
  · intro w'
    go_simp
    with_reducible rfl
  rotate_left
  · simp only [Act.put, List.setIfInBounds_toArray, List.set_cons_zero, List.set_cons_succ, i64_w, i32_w]
    rfl
  refine pure_ (i := 13) (N := some 64) (v := ?_) (a' := ?_) #[true, true, true, true, true, true, true, true, true, true, true, true, true, true, false] rfl rfl (any_of rfl (by kernel_rfl)) (fun _ _ _ h => h) (Or.inl ⟨by rfl, ?_⟩) ?_ ?_
  rotate_left
  · intro w'
    go_simp
    with_reducible rfl
  rotate_left
  · simp only [Act.put, List.setIfInBounds_toArray, List.set_cons_zero, List.set_cons_succ, i64_w, i32_w]
    rfl
  refine last_ (i := 14) (N := none) #[true, true, true, true, true, true, true, true, true, true, true, true, true, true, true] rfl rfl (one_of rfl (by kernel_rfl)) (by decide) (fun K hK => ?_)
  have c1 : w5.cell? ⟨p, 1, none⟩ = some vI := (blk_cell BK.out 1).trans rfl
  have f1 := blk_frozen BK.out 1
  refine skip_ (w1 := w5.setCell ⟨p, 1, none⟩ (.slice A3 (I ++ [(⟨2, 0, l, set, []⟩ : S30)]).length c3_)) (by rfl) rfl ?_ ?_
  · go_simp
    try rfl
  refine hK.out _ _ ?_
  clear hK K
  refine done_ (done_of rfl (by kernel_rfl)) ?_
  go_wp2
  go_end0
  refine ⟨rfl, ⟨vD, _, okD, fun k => okI k ∨ w.heap.size ≤ k, blk_put BK.out 1 _ rfl, h2, .inl H3.out, Kd.N_far HD.out (p := ⟨p, 1, none⟩) (fun k hk => (H6.out k hk).2.2.1) _, Kd.S_far HI.out (p := ⟨p, 1, none⟩) (fun k hk => hk.elim (fun h_ => (H7.out k h_).2.2.1) (fun h_ e_ => by have := HP.out; have e2_ : k = p := e_; omega)) _, fun k hk => ⟨(H6.out k hk).1, .inl (H6.out k hk).2.1, (H6.out k hk).2.2.1⟩, fun k hk => hk.elim (fun h_ => ⟨(H7.out k h_).1, .inl (H7.out k h_).2.1, (H7.out k h_).2.2.1, (H7.out k h_).2.2.2.1⟩) (fun h_ => ⟨by omega, .inr h_, fun e_ => by have := HP.out; omega, fun hd => by have := (H6.out k hd).2.2.2; omega⟩)⟩, HK.out.setCell (p := ⟨p, 1, none⟩) (.inl H3.out) _, HB.out.setCell (p := ⟨p, 1, none⟩) h2 _⟩

set_option maxHeartbeats 4000000 in
set_option maxRecDepth 100000 in
theorem insert_new (p : Nat) (D I : List S30) (g : Int) (base : Nat) (ok : Nat → Prop) (Al : Option Addr) (cl : Nat) (l : List Int) (As : Option Addr) (cs : Nat) (set : List S40) (w : World) (hM : Mk w base ok p D I g) (hbase : base ≤ w.heap.size) (hL : Kd.C (Kd.int .i32) w Al l.length l) (hcl : l.length ≤ cl) (hS : Kd.C k40 w As set.length set) (hcs : set.length ≤ cs) (hne : 0 < l.length) (hl : l.length ≤ 1000000) (hs : set.length ≤ 1000000) (hIl : I.length ≤ 1000000) (m : Nat) (o : S30) (hIm : I.length = m + 1) (ho : I[m]? = some o) (hdiff : keyA o.f3 ≠ keyA set) :
    Calls Try.prog 21 #[.pointer (some ⟨p, 0, none⟩), .slice Al l.length cl, .slice As set.length cs] w fun e w' => e = .returned (.tuple #[]) ∧ MkPost w base ok p D (I ++ [⟨2, 0, l, set, []⟩]) g w' := by
  obtain ⟨vD, vI, okD, okI, h1, h2, h3, h4, h5, h6, h7⟩ := hM.bound
  have BK := Aside0.mk h1
  have HP := Aside0.mk (blk_lt h1)
  have HD := Aside0.mk h4
  have HI := Aside0.mk h5
  have H6 : Aside0 (∀ k, okD k → base ≤ k ∧ ok k ∧ k ≠ p ∧ k < w.heap.size) := Aside0.mk (fun k hk => ⟨(h6 k hk).1, (h6 k hk).2.1.1, (h6 k hk).2.2, (h6 k hk).2.1.2⟩)
  have H7 : Aside0 (∀ k, okI k → base ≤ k ∧ ok k ∧ k ≠ p ∧ ¬ okD k ∧ k < w.heap.size) := Aside0.mk (fun k hk => ⟨(h7 k hk).1, (h7 k hk).2.1.1, (h7 k hk).2.2.1, (h7 k hk).2.2.2, (h7 k hk).2.1.2⟩)
  have H3 := Aside0.mk h3.1
  have HK := Aside0.mk (Kept.refl w ok)
  have HB := Aside0.mk (Below.refl base w)
  have HZ := Aside0.mk (Nat.le_refl w.heap.size)
  obtain ⟨gI, capI, hvI, hgb, hgl, _, _⟩ := Kd.S_form h5 (by omega)
  subst hvI
  rw [hIm] at h5
  obtain ⟨oki0, ce0, _, hM0, hcc0, _, _, _⟩ := Kd.S_elem h5 z30 (m : Int) (by omega) (by omega)
  have hgetD : I.getD (m : Int).toNat z30 = o := by rw [Int.toNat_natCast, List.getD_eq_getElem?_getD, ho]; rfl
  rw [hgetD] at hM0
  obtain ⟨v2, v3, v4, rfl, hr2, hr3, hr4⟩ := k30_openM hM0
  obtain ⟨A2, c2, rfl⟩ := Kd.R_slice hr2
  obtain ⟨A3, c3, rfl⟩ := Kd.R_slice hr3
  have e2 : w.cell? ⟨gI, m * 5 + 2, none⟩ = some (.slice A2 o.f2.length c2) := hcc0 2 _ rfl
  have e3 : w.cell? ⟨gI, m * 5 + 3, none⟩ = some (.slice A3 o.f3.length c3) := hcc0 3 _ rfl
  have E2 := Aside0.mk e2
  have R3 := Aside0.mk (Kd.R_reads' hr3)
  have HG := Aside0.mk hgl
  have c0 : w.cell? ⟨p, 1, none⟩ = some (.slice (some ⟨gI, 0, none⟩) (m + 1) capI) := by rw [← hIm]; simp [World.cell?, h1]
  rw [hIm] at BK HI
  have hlz : ((l.length : Int) == 0) = false := beq_eq_false_iff_ne.2 (by omega)
  have HL := Aside0.mk hL
  have HS := Aside0.mk hS
  have HDF := Aside0.mk hdiff
  have HO_ := Aside0.mk ho
  have HIM := Aside0.mk hIm
  clear h1 h3 h4 h5 h6 h7 hM hL hS hcc0 hM0 hr2 hr3 hr4 e2 hdiff hgetD ho
  have hm1 : m + 1 ≤ 1000000 := by omega
  have HGI := Aside0.mk (Kd.S_ok HI.out gI (by simp [Value.ownBlock]))
  go_enter Try.func21, Try.ntmps21
  go_wp2_with fail
  go_at_call 29
  refine (equalA_calls A3 c3 o.f3 As cs set w R3.out.2.2 R3.out.2.1 HS.out hcs).mono ?_
  rintro e w1 ⟨he, hb⟩
  rw [eqB_false.2 HDF.out] at he
  subst he
  replace BK := Aside0.mk (blk_below BK.out hb)
  replace HD := Aside0.mk (Kd.N_below HD.out hb)
  replace HI := Aside0.mk (Kd.S_below HI.out hb)
  replace HB := Aside0.mk (below_then HB.out (Nat.le_trans hbase HZ.out) hb)
  replace HK := Aside0.mk (HK.out.below hb)
  replace HZ := Aside0.mk (Nat.le_trans HZ.out hb.size)
  replace HL := Aside0.mk (Kd.C_below HL.out hb)
  replace HS := Aside0.mk (Kd.C_below HS.out hb)
  replace E2 := Aside0.mk ((hb.cell (World.block_lt_of_cell? _ _ E2.out)).trans E2.out)
  clear hb c0 e3
  go_wp2_with fail
  refine start_ (n := 15) (S := fun w' => w'.cell? ⟨p, 1, none⟩ = some (.slice (some ⟨gI, 0, none⟩) (m + 1) capI)) (ds := [14]) #[false, false, false, false, false, false, false, false, false, false, false, false, false, false, false] (by kernel_rfl) rfl rfl ((blk_cell (w := w1.drew) BK.out 1).trans rfl) (fun hHeld => ?_)
  have hb := below_drew (Below.refl w1.heap.size w1)
  generalize w1.drew = w2 at hb hHeld ⊢
  replace BK := Aside0.mk (blk_below BK.out hb)
  replace HD := Aside0.mk (Kd.N_below HD.out hb)
  replace HI := Aside0.mk (Kd.S_below HI.out hb)
  replace HB := Aside0.mk (below_then HB.out (Nat.le_trans hbase HZ.out) hb)
  replace HK := Aside0.mk (HK.out.below hb)
  replace HZ := Aside0.mk (Nat.le_trans HZ.out hb.size)
  replace HL := Aside0.mk (Kd.C_below HL.out hb)
  replace HS := Aside0.mk (Kd.C_below HS.out hb)
  clear hb
  refine pure_ (i := 0) (N := some 51) (v := ?_) (a' := ?_) #[true, false, false, false, false, false, false, false, false, false, false, false, false, false, false] rfl rfl (any_of rfl (by kernel_rfl)) (fun _ _ _ h => h) (Or.inl ⟨by rfl, ?_⟩) ?_ ?_
  rotate_left
  · intro w'
    go_simp
    with_reducible rfl
  rotate_left
  · simp only [Act.put, List.setIfInBounds_toArray, List.set_cons_zero, List.set_cons_succ, i64_w, i32_w]
    rfl
  refine pure_ (i := 1) (N := some 52) (v := ?_) (a' := ?_) #[true, true, false, false, false, false, false, false, false, false, false, false, false, false, false] rfl rfl (any_of rfl (by kernel_rfl)) (fun _ _ _ h => h) (Or.inl ⟨by rfl, ?_⟩) ?_ ?_
  rotate_left
  · intro w'
    go_simp
    with_reducible rfl
  rotate_left
  · simp only [Act.put, List.setIfInBounds_toArray, List.set_cons_zero, List.set_cons_succ, i64_w, i32_w]
    rfl
  refine pure_ (i := 2) (N := some 53) (v := ?_) (a' := ?_) #[true, true, true, false, false, false, false, false, false, false, false, false, false, false, false] rfl rfl (any_of rfl (by kernel_rfl)) (fun _ _ _ h => h) (Or.inl ⟨by rfl, ?_⟩) ?_ ?_
  rotate_left
  · intro w'
    go_simp
    with_reducible rfl
  rotate_left
  · simp only [Act.put, List.setIfInBounds_toArray, List.set_cons_zero, List.set_cons_succ, i64_w, i32_w]
    rfl
  refine pure_ (i := 3) (N := some 54) (v := ?_) (a' := ?_) #[true, true, true, true, false, false, false, false, false, false, false, false, false, false, false] rfl rfl (any_of rfl (by kernel_rfl)) (fun _ _ _ h => h) (Or.inl ⟨by rfl, ?_⟩) ?_ ?_
  rotate_left
  · intro w'
    go_simp
    with_reducible rfl
  rotate_left
  · simp only [Act.put, List.setIfInBounds_toArray, List.set_cons_zero, List.set_cons_succ, i64_w, i32_w]
    rfl
  refine take_ (i := 4) (N := some 55) (v := ?_) (a' := ?_) #[true, true, true, true, true, false, false, false, false, false, false, false, false, false, false] rfl rfl (take_of rfl (by kernel_rfl)) (fun _ _ _ h => h) (Or.inl ⟨by rfl, ?_⟩) hHeld ?_ ?_
  rotate_left
  · rintro w' s0
    go_simp
    with_reducible rfl
  rotate_left
  · simp only [Act.put, List.setIfInBounds_toArray, List.set_cons_zero, List.set_cons_succ, i64_w, i32_w]
    rfl
  refine pure_ (i := 5) (N := some 56) (v := ?_) (a' := ?_) #[true, true, true, true, true, true, false, false, false, false, false, false, false, false, false] rfl rfl (any_of rfl (by kernel_rfl)) (fun _ _ _ h => h) (Or.inl ⟨by rfl, ?_⟩) ?_ ?_
  rotate_left
  · intro w'
    go_simp
    with_reducible rfl
  rotate_left
  · simp only [Act.put, List.setIfInBounds_toArray, List.set_cons_zero, List.set_cons_succ, i64_w, i32_w]
    rfl
  refine pure_ (i := 7) (N := some 58) (v := ?_) (a' := ?_) #[true, true, true, true, true, true, false, true, false, false, false, false, false, false, false] rfl rfl (any_of rfl (by kernel_rfl)) (fun _ _ _ h => h) (Or.inl ⟨by rfl, ?_⟩) ?_ ?_
  rotate_left
  · intro w'
    go_simp
    with_reducible rfl
  rotate_left
  · simp only [Act.put, List.setIfInBounds_toArray, List.set_cons_zero, List.set_cons_succ, i64_w, i32_w]
    rfl
  refine one_ (i := 6) (N := some 57) #[true, true, true, true, true, true, true, true, false, false, false, false, false, false, false] rfl rfl (one_of rfl (by kernel_rfl)) (by decide) (fun K hK => ?_)
  refine goes_ Try.func37 (by kernel_rfl) rfl #[.slice Al l.length cl] (by rfl) rfl rfl (by (try simp only [List.map_toArray, List.map_cons, List.map_nil]); first | done | rfl) ?_
  refine (slices_Clone_int32_int32.calls Al cl l l _ HL.out hcl (cloneI_eq l hl)).mono ?_
  rintro e w3 ⟨v1, rfl, hv1, hb⟩
  have V1 := Aside0.mk (Kd.R_mono (Kd.R_lower (Kd.R_bound hv1) (Nat.le_trans hbase HZ.out)) (fun k hk => (⟨Nat.le_trans HZ.out hk.2.1, hk.2.2.1⟩ : w.heap.size ≤ k ∧ k < w3.heap.size)))
  replace BK := Aside0.mk (blk_below BK.out hb)
  replace HD := Aside0.mk (Kd.N_below HD.out hb)
  replace HI := Aside0.mk (Kd.S_below HI.out hb)
  replace HB := Aside0.mk (below_then HB.out (Nat.le_trans hbase HZ.out) hb)
  replace HK := Aside0.mk (HK.out.below hb)
  replace HZ := Aside0.mk (Nat.le_trans HZ.out hb.size)
  replace HS := Aside0.mk (Kd.C_below HS.out hb)
  clear hv1 hb
  refine ⟨_, rfl, ?_⟩
  refine hK.out _ _ ((blk_cell BK.out 1).trans rfl) (fun hHeld => ?_)
  clear hK K
  refine norm_ (a' := ?_) ?_ ?_
  rotate_left
  · show Act.put _ (some 57) _ = _
    simp only [Act.put, List.setIfInBounds_toArray, List.set_cons_zero, List.set_cons_succ, i64_w, i32_w]
    rfl
  refine one_ (i := 8) (N := some 59) #[true, true, true, true, true, true, true, true, true, false, false, false, false, false, false] rfl rfl (one_of rfl (by kernel_rfl)) (by decide) (fun K hK => ?_)
  refine goes_ Try.func38 (by kernel_rfl) rfl #[.slice As set.length cs] (by rfl) rfl rfl (by (try simp only [List.map_toArray, List.map_cons, List.map_nil]); first | done | rfl) ?_
  refine (attrs_Copy.calls As cs set set _ HS.out hcs (copyA_eq set hs)).mono ?_
  rintro e w4 ⟨v2, rfl, hv2, hb⟩
  have V2 := Aside0.mk (Kd.R_mono (Kd.R_lower (Kd.R_bound hv2) (Nat.le_trans hbase HZ.out)) (fun k hk => (⟨Nat.le_trans HZ.out hk.2.1, hk.2.2.1⟩ : w.heap.size ≤ k ∧ k < w4.heap.size)))
  replace BK := Aside0.mk (blk_below BK.out hb)
  replace HD := Aside0.mk (Kd.N_below HD.out hb)
  replace HI := Aside0.mk (Kd.S_below HI.out hb)
  replace HB := Aside0.mk (below_then HB.out (Nat.le_trans hbase HZ.out) hb)
  replace HK := Aside0.mk (HK.out.below hb)
  replace HZ := Aside0.mk (Nat.le_trans HZ.out hb.size)
  replace V1 := Aside0.mk (Kd.R_mono (Kd.R_below V1.out hb) (fun k hk => (⟨hk.1, Nat.lt_of_lt_of_le hk.2 hb.size⟩ : w.heap.size ≤ k ∧ k < w4.heap.size)))
  clear hv2 hb
  refine ⟨_, rfl, ?_⟩
  refine hK.out _ _ ((blk_cell BK.out 1).trans rfl) (fun hHeld => ?_)
  clear hK K
  refine norm_ (a' := ?_) ?_ ?_
  rotate_left
  · show Act.put _ (some 59) _ = _
    simp only [Act.put, List.setIfInBounds_toArray, List.set_cons_zero, List.set_cons_succ, i64_w, i32_w]
    rfl
  obtain ⟨A1, c1_, rfl⟩ := Kd.R_slice V1.out
  obtain ⟨A2, c2_, rfl⟩ := Kd.R_slice V2.out
  refine pure_ (i := 9) (N := some 60) (v := ?_) (a' := ?_) #[true, true, true, true, true, true, true, true, true, true, false, false, false, false, false] rfl rfl (any_of rfl (by kernel_rfl)) (fun _ _ _ h => h) (Or.inl ⟨by rfl, ?_⟩) ?_ ?_
  rotate_left
  · intro w'
    go_simp
    with_reducible rfl
  rotate_left
  · simp only [Act.put, List.setIfInBounds_toArray, List.set_cons_zero, List.set_cons_succ, i64_w, i32_w]
    rfl
  refine one_ (i := 10) (N := some 61) #[true, true, true, true, true, true, true, true, true, true, true, false, false, false, false] rfl rfl (one_of rfl (by kernel_rfl)) (by decide) (fun K hK => ?_)
  refine value_ (w1 := ?_) (v := ?_) (by rfl) rfl ?_ ?_
  rotate_left 2
  · go_simp
    constructor
    · rfl
    · rfl
  refine hK.out _ _ ((blk_cell (blk_alloc BK.out _) 1).trans rfl) (fun hHeld => ?_)
  clear hK K
  refine norm_ (a' := ?_) ?_ ?_
  rotate_left
  · show Act.put _ (some 61) _ = _
    simp only [Act.put, List.setIfInBounds_toArray, List.set_cons_zero, List.set_cons_succ, i64_w, i32_w]
    rfl
  refine one_ (i := 11) (N := some 62) #[true, true, true, true, true, true, true, true, true, true, true, true, false, false, false] rfl rfl (one_of rfl (by kernel_rfl)) (by decide) (fun K hK => ?_)
  refine Kd.S_append_step k30 (w0 := w) base (by rfl) (.tmp 55) (.tmp 61) 23 30 (.agg #[(.int .u8 0), (.int .i64 0), (.slice none 0 0), (.slice none 0 0), (.slice none 0 0)]) 88 rfl Try.underlying23 info30 rfl (by decide) (by omega) (.slice (some ⟨gI, 0, none⟩) (m + 1) capI) I (⟨2, 0, l, set, []⟩ : S30) [.int .u8 2, .int .i64 0, .slice A1 l.length c1_, .slice A2 set.length c2_, .slice none 0 0] (fun k => okI k ∨ w.heap.size ≤ k) (fun k => w.heap.size ≤ k ∧ k < w4.heap.size) rfl rfl ?aP ?aQ ?aF ?aO ?aB ?aS ?aL ?_
  (case aP => exact k30_mkM _ _ _ (⟨2, 0, l, set, []⟩ : S30) V1.out V2.out (Kd.R_nil _ _ _ _ _))
  (case aQ => exact fun k hk => ⟨.inr hk.1, fun e_ => by have := (H7.out k (Kd.S_ok HI.out k e_.symm)).2.2.2.2; omega⟩)
  (case aF => exact fun k hk => .inr (Nat.le_trans HZ.out hk))
  (case aO => exact Kd.S_mono HI.out (fun k hk => ⟨.inl hk, fun h_ => by have := (H7.out k hk).2.2.2.2; omega⟩))
  (case aB => exact HB.out)
  (case aS => exact Nat.le_trans hbase HZ.out)
  (case aL => omega)
  intro v3 w5 ho hb hg hat
  obtain ⟨A3, c3_, rfl⟩ := Kd.S_slice ho
  replace BK := Aside0.mk (blk_grown BK.out hg (fun e_ => (H7.out p (Kd.S_ok HI.out p e_.symm)).2.2.1 rfl))
  replace HD := Aside0.mk (Kd.N_grown HD.out hg (fun k hk e_ => (H7.out k (Kd.S_ok HI.out k e_.symm)).2.2.2.1 hk))
  replace HK := Aside0.mk (Kept.of_grown hg HK.out (fun k e_ => .inl (H7.out k (Kd.S_ok HI.out k e_)).2.1))
  replace HI := Aside0.mk ho
  replace HB := Aside0.mk hb
  clear ho hb hg hat
  refine hK.out _ _ ((blk_cell BK.out 1).trans rfl) (fun hHeld => ?_)
  clear hK K
  refine norm_ (a' := ?_) ?_ ?_
  rotate_left
  · show Act.put _ (some 62) _ = _
    simp only [Act.put, List.setIfInBounds_toArray, List.set_cons_zero, List.set_cons_succ, i64_w, i32_w]
    rfl
  refine pure_ (i := 12) (N := some 63) (v := ?_) (a' := ?_) #[true, true, true, true, true, true, true, true, true, true, true, true, true, false, false] rfl rfl (any_of rfl (by kernel_rfl)) (fun _ _ _ h => h) (Or.inl ⟨by rfl, ?_⟩) ?_ ?_
  rotate_left
  · intro w'
    go_simp
    with_reducible rfl
  rotate_left
  · simp only [Act.put, List.setIfInBounds_toArray, List.set_cons_zero, List.set_cons_succ, i64_w, i32_w]
    rfl
  refine pure_ (i := 13) (N := some 64) (v := ?_) (a' := ?_) #[true, true, true, true, true, true, true, true, true, true, true, true, true, true, false] rfl rfl (any_of rfl (by kernel_rfl)) (fun _ _ _ h => h) (Or.inl ⟨by rfl, ?_⟩) ?_ ?_
  rotate_left
  · intro w'
    go_simp
    with_reducible rfl
  rotate_left
  · simp only [Act.put, List.setIfInBounds_toArray, List.set_cons_zero, List.set_cons_succ, i64_w, i32_w]
    rfl
  refine last_ (i := 14) (N := none) #[true, true, true, true, true, true, true, true, true, true, true, true, true, true, true] rfl rfl (one_of rfl (by kernel_rfl)) (by decide) (fun K hK => ?_)
  have c1 : w5.cell? ⟨p, 1, none⟩ = some (.slice (some ⟨gI, 0, none⟩) (m + 1) capI) := (blk_cell BK.out 1).trans rfl
  have f1 := blk_frozen BK.out 1
  refine skip_ (w1 := w5.setCell ⟨p, 1, none⟩ (.slice A3 (I ++ [(⟨2, 0, l, set, []⟩ : S30)]).length c3_)) (by rfl) rfl ?_ ?_
  · go_simp
    try rfl
  refine hK.out _ _ ?_
  clear hK K
  refine done_ (done_of rfl (by kernel_rfl)) ?_
  go_wp2
  go_end0
  refine ⟨rfl, ⟨vD, _, okD, fun k => okI k ∨ w.heap.size ≤ k, blk_put BK.out 1 _ rfl, h2, .inl H3.out, Kd.N_far HD.out (p := ⟨p, 1, none⟩) (fun k hk => (H6.out k hk).2.2.1) _, Kd.S_far HI.out (p := ⟨p, 1, none⟩) (fun k hk => hk.elim (fun h_ => (H7.out k h_).2.2.1) (fun h_ e_ => by have := HP.out; have e2_ : k = p := e_; omega)) _, fun k hk => ⟨(H6.out k hk).1, .inl (H6.out k hk).2.1, (H6.out k hk).2.2.1⟩, fun k hk => hk.elim (fun h_ => ⟨(H7.out k h_).1, .inl (H7.out k h_).2.1, (H7.out k h_).2.2.1, (H7.out k h_).2.2.2.1⟩) (fun h_ => ⟨by omega, .inr h_, fun e_ => by have := HP.out; omega, fun hd => by have := (H6.out k hd).2.2.2; omega⟩)⟩, HK.out.setCell (p := ⟨p, 1, none⟩) (.inl H3.out) _, HB.out.setCell (p := ⟨p, 1, none⟩) h2 _⟩

set_option maxHeartbeats 4000000 in
set_option maxRecDepth 100000 in
theorem insert_same (p : Nat) (D I : List S30) (g : Int) (base : Nat) (ok : Nat → Prop) (Al : Option Addr) (cl : Nat) (l : List Int) (As : Option Addr) (cs : Nat) (set : List S40) (w : World) (hM : Mk w base ok p D I g) (hbase : base ≤ w.heap.size) (hL : Kd.C (Kd.int .i32) w Al l.length l) (hcl : l.length ≤ cl) (hS : Kd.C k40 w As set.length set) (hcs : set.length ≤ cs) (hne : 0 < l.length) (hl : l.length ≤ 1000000) (hs : set.length ≤ 1000000) (hIl : I.length ≤ 1000000) (m : Nat) (o : S30) (hIm : I.length = m + 1) (ho : I[m]? = some o) (hdiff : keyA o.f3 = keyA set) (hol : o.f2.length ≤ 1000000) :
    Calls Try.prog 21 #[.pointer (some ⟨p, 0, none⟩), .slice Al l.length cl, .slice As set.length cs] w fun e w' => e = .returned (.tuple #[]) ∧ MkPost w base ok p D (I.set (m : Int).toNat ⟨o.f0, o.f1, o.f2 ++ l, o.f3, o.f4⟩) g w' := by
  obtain ⟨vD, vI, okD, okI, h1, h2, h3, h4, h5, h6, h7⟩ := hM.bound
  have BK := Aside0.mk h1
  have HP := Aside0.mk (blk_lt h1)
  have HD := Aside0.mk h4
  have HI := Aside0.mk h5
  have H6 : Aside0 (∀ k, okD k → base ≤ k ∧ ok k ∧ k ≠ p ∧ k < w.heap.size) := Aside0.mk (fun k hk => ⟨(h6 k hk).1, (h6 k hk).2.1.1, (h6 k hk).2.2, (h6 k hk).2.1.2⟩)
  have H7 : Aside0 (∀ k, okI k → base ≤ k ∧ ok k ∧ k ≠ p ∧ ¬ okD k ∧ k < w.heap.size) := Aside0.mk (fun k hk => ⟨(h7 k hk).1, (h7 k hk).2.1.1, (h7 k hk).2.2.1, (h7 k hk).2.2.2, (h7 k hk).2.1.2⟩)
  have H3 := Aside0.mk h3.1
  have HK := Aside0.mk (Kept.refl w ok)
  have HB := Aside0.mk (Below.refl base w)
  have HZ := Aside0.mk (Nat.le_refl w.heap.size)
  obtain ⟨gI, capI, hvI, hgb, hgl, _, _⟩ := Kd.S_form h5 (by omega)
  subst hvI
  rw [hIm] at h5
  obtain ⟨oki0, ce0, _, hM0, hcc0, _, _, _⟩ := Kd.S_elem h5 z30 (m : Int) (by omega) (by omega)
  have hgetD : I.getD (m : Int).toNat z30 = o := by rw [Int.toNat_natCast, List.getD_eq_getElem?_getD, ho]; rfl
  rw [hgetD] at hM0
  obtain ⟨v2, v3, v4, rfl, hr2, hr3, hr4⟩ := k30_openM hM0
  obtain ⟨A2, c2, rfl⟩ := Kd.R_slice hr2
  obtain ⟨A3, c3, rfl⟩ := Kd.R_slice hr3
  have e2 : w.cell? ⟨gI, m * 5 + 2, none⟩ = some (.slice A2 o.f2.length c2) := hcc0 2 _ rfl
  have e3 : w.cell? ⟨gI, m * 5 + 3, none⟩ = some (.slice A3 o.f3.length c3) := hcc0 3 _ rfl
  have E2 := Aside0.mk e2
  have R3 := Aside0.mk (Kd.R_reads' hr3)
  have HG := Aside0.mk hgl
  have c0 : w.cell? ⟨p, 1, none⟩ = some (.slice (some ⟨gI, 0, none⟩) (m + 1) capI) := by rw [← hIm]; simp [World.cell?, h1]
  rw [hIm] at BK HI
  have hlz : ((l.length : Int) == 0) = false := beq_eq_false_iff_ne.2 (by omega)
  have HL := Aside0.mk hL
  have HS := Aside0.mk hS
  have HDF := Aside0.mk hdiff
  have HO_ := Aside0.mk ho
  have HIM := Aside0.mk hIm
  clear h1 h3 h4 h5 h6 h7 hM hL hS hcc0 hM0 hr2 hr3 hr4 e2 hdiff hgetD ho
  have hm1 : m + 1 ≤ 1000000 := by omega
  have HGI := Aside0.mk (Kd.S_ok HI.out gI (by simp [Value.ownBlock]))
  go_enter Try.func21, Try.ntmps21
  go_wp2_with fail
  go_at_call 29
  refine (equalA_calls A3 c3 o.f3 As cs set w R3.out.2.2 R3.out.2.1 HS.out hcs).mono ?_
  rintro e w1 ⟨he, hb⟩
  rw [eqB_true.2 HDF.out] at he
  subst he
  replace BK := Aside0.mk (blk_below BK.out hb)
  replace HD := Aside0.mk (Kd.N_below HD.out hb)
  replace HI := Aside0.mk (Kd.S_below HI.out hb)
  replace HB := Aside0.mk (below_then HB.out (Nat.le_trans hbase HZ.out) hb)
  replace HK := Aside0.mk (HK.out.below hb)
  replace HZ := Aside0.mk (Nat.le_trans HZ.out hb.size)
  replace HL := Aside0.mk (Kd.C_below HL.out hb)
  replace HS := Aside0.mk (Kd.C_below HS.out hb)
  replace E2 := Aside0.mk ((hb.cell (World.block_lt_of_cell? _ _ E2.out)).trans E2.out)
  clear hb c0 e3
  go_wp2_with fail
  refine start_ (n := 18) (S := fun w' => w'.cell? ⟨p, 1, none⟩ = some (.slice (some ⟨gI, 0, none⟩) (m + 1) capI) ∧ w'.cell? ⟨gI, m * 5 + 2, none⟩ = some (.slice A2 o.f2.length c2)) (ds := [17]) #[false, false, false, false, false, false, false, false, false, false, false, false, false, false, false, false, false, false] (by kernel_rfl) rfl rfl ⟨((blk_cell (w := w1.drew) BK.out 1).trans rfl), E2.out⟩ (fun hHeld => ?_)
  have hb := below_drew (Below.refl w1.heap.size w1)
  generalize w1.drew = w2 at hb hHeld ⊢
  replace BK := Aside0.mk (blk_below BK.out hb)
  replace HD := Aside0.mk (Kd.N_below HD.out hb)
  replace HI := Aside0.mk (Kd.S_below HI.out hb)
  replace HB := Aside0.mk (below_then HB.out (Nat.le_trans hbase HZ.out) hb)
  replace HK := Aside0.mk (HK.out.below hb)
  replace HZ := Aside0.mk (Nat.le_trans HZ.out hb.size)
  replace HL := Aside0.mk (Kd.C_below HL.out hb)
  replace HS := Aside0.mk (Kd.C_below HS.out hb)
  replace E2 := Aside0.mk ((hb.cell (World.block_lt_of_cell? _ _ E2.out)).trans E2.out)
  clear hb
  have q0 : (0 : Int) ≤ (m : Int) := Int.natCast_nonneg m
  have q1 : (m : Int) < (m : Int) + 1 := by omega
  refine pure_ (i := 0) (N := some 34) (v := ?_) (a' := ?_) #[true, false, false, false, false, false, false, false, false, false, false, false, false, false, false, false, false, false] rfl rfl (any_of rfl (by kernel_rfl)) (fun _ _ _ h => h) (Or.inl ⟨by rfl, ?_⟩) ?_ ?_
  rotate_left
  · intro w'
    go_simp
    with_reducible rfl
  rotate_left
  · simp only [Act.put, List.setIfInBounds_toArray, List.set_cons_zero, List.set_cons_succ, i64_w, i32_w]
    rfl
  refine pure_ (i := 1) (N := some 35) (v := ?_) (a' := ?_) #[true, true, false, false, false, false, false, false, false, false, false, false, false, false, false, false, false, false] rfl rfl (any_of rfl (by kernel_rfl)) (fun _ _ _ h => h) (Or.inl ⟨by rfl, ?_⟩) ?_ ?_
  rotate_left
  · intro w'
    go_simp
    with_reducible rfl
  rotate_left
  · simp only [Act.put, List.setIfInBounds_toArray, List.set_cons_zero, List.set_cons_succ, i64_w, i32_w]
    rfl
  refine pure_ (i := 2) (N := some 36) (v := ?_) (a' := ?_) #[true, true, true, false, false, false, false, false, false, false, false, false, false, false, false, false, false, false] rfl rfl (any_of rfl (by kernel_rfl)) (fun _ _ _ h => h) (Or.inl ⟨by rfl, ?_⟩) ?_ ?_
  rotate_left
  · intro w'
    go_simp
    with_reducible rfl
  rotate_left
  · simp only [Act.put, List.setIfInBounds_toArray, List.set_cons_zero, List.set_cons_succ, i64_w, i32_w]
    rfl
  refine pure_ (i := 4) (N := some 38) (v := ?_) (a' := ?_) #[true, true, true, false, true, false, false, false, false, false, false, false, false, false, false, false, false, false] rfl rfl (any_of rfl (by kernel_rfl)) (fun _ _ _ h => h) (Or.inl ⟨by rfl, ?_⟩) ?_ ?_
  rotate_left
  · intro w'
    go_simp
    with_reducible rfl
  rotate_left
  · simp only [Act.put, List.setIfInBounds_toArray, List.set_cons_zero, List.set_cons_succ, i64_w, i32_w]
    rfl
  refine pure_ (i := 5) (N := some 39) (v := ?_) (a' := ?_) #[true, true, true, false, true, true, false, false, false, false, false, false, false, false, false, false, false, false] rfl rfl (any_of rfl (by kernel_rfl)) (fun _ _ _ h => h) (Or.inl ⟨by rfl, ?_⟩) ?_ ?_
  rotate_left
  · intro w'
    go_simp
    with_reducible rfl
  rotate_left
  · simp only [Act.put, List.setIfInBounds_toArray, List.set_cons_zero, List.set_cons_succ, i64_w, i32_w]
    rfl
  refine pure_ (i := 6) (N := some 40) (v := ?_) (a' := ?_) #[true, true, true, false, true, true, true, false, false, false, false, false, false, false, false, false, false, false] rfl rfl (any_of rfl (by kernel_rfl)) (fun _ _ _ h => h) (Or.inl ⟨by rfl, ?_⟩) ?_ ?_
  rotate_left
  · intro w'
    go_simp
    with_reducible rfl
  rotate_left
  · simp only [Act.put, List.setIfInBounds_toArray, List.set_cons_zero, List.set_cons_succ, i64_w, i32_w]
    rfl
  refine pure_ (i := 7) (N := some 41) (v := ?_) (a' := ?_) #[true, true, true, false, true, true, true, true, false, false, false, false, false, false, false, false, false, false] rfl rfl (any_of rfl (by kernel_rfl)) (fun _ _ _ h => h) (Or.inl ⟨by rfl, ?_⟩) ?_ ?_
  rotate_left
  · intro w'
    go_simp
    with_reducible rfl
  rotate_left
  · simp only [Act.put, List.setIfInBounds_toArray, List.set_cons_zero, List.set_cons_succ, i64_w, i32_w]
    rfl
  refine pure_ (i := 9) (N := some 43) (v := ?_) (a' := ?_) #[true, true, true, false, true, true, true, true, false, true, false, false, false, false, false, false, false, false] rfl rfl (any_of rfl (by kernel_rfl)) (fun _ _ _ h => h) (Or.inl ⟨by rfl, ?_⟩) ?_ ?_
  rotate_left
  · intro w'
    go_simp
    with_reducible rfl
  rotate_left
  · simp only [Act.put, List.setIfInBounds_toArray, List.set_cons_zero, List.set_cons_succ, i64_w, i32_w]
    rfl
  refine pure_ (i := 13) (N := some 47) (v := ?_) (a' := ?_) #[true, true, true, false, true, true, true, true, false, true, false, false, false, true, false, false, false, false] rfl rfl (any_of rfl (by kernel_rfl)) (fun _ _ _ h => h) (Or.inl ⟨by rfl, ?_⟩) ?_ ?_
  rotate_left
  · intro w'
    go_simp
    with_reducible rfl
  rotate_left
  · simp only [Act.put, List.setIfInBounds_toArray, List.set_cons_zero, List.set_cons_succ, i64_w, i32_w]
    rfl
  refine take_ (i := 3) (N := some 37) (v := ?_) (a' := ?_) #[true, true, true, true, true, true, true, true, false, true, false, false, false, true, false, false, false, false] rfl rfl (take_of rfl (by kernel_rfl)) (fun _ _ _ h => h) (Or.inl ⟨by rfl, ?_⟩) hHeld ?_ ?_
  rotate_left
  · rintro w' ⟨s0, s1⟩
    go_simp
    with_reducible rfl
  rotate_left
  · simp only [Act.put, List.setIfInBounds_toArray, List.set_cons_zero, List.set_cons_succ, i64_w, i32_w]
    rfl
  refine take_ (i := 8) (N := some 42) (v := ?_) (a' := ?_) #[true, true, true, true, true, true, true, true, true, true, false, false, false, true, false, false, false, false] rfl rfl (take_of rfl (by kernel_rfl)) (fun _ _ _ h => h) (Or.inl ⟨by rfl, ?_⟩) hHeld ?_ ?_
  rotate_left
  · rintro w' ⟨s0, s1⟩
    go_simp
    with_reducible rfl
  rotate_left
  · simp only [Act.put, List.setIfInBounds_toArray, List.set_cons_zero, List.set_cons_succ, i64_w, i32_w]
    rfl
  refine pure_ (i := 10) (N := some 44) (v := ?_) (a' := ?_) #[true, true, true, true, true, true, true, true, true, true, true, false, false, true, false, false, false, false] rfl rfl (any_of rfl (by kernel_rfl)) (fun _ _ _ h => h) (Or.inl ⟨by rfl, ?_⟩) ?_ ?_
  rotate_left
  · intro w'
    go_simp
    with_reducible rfl
  rotate_left
  · simp only [Act.put, List.setIfInBounds_toArray, List.set_cons_zero, List.set_cons_succ, i64_w, i32_w]
    rfl
  refine pure_ (i := 11) (N := some 45) (v := ?_) (a' := ?_) #[true, true, true, true, true, true, true, true, true, true, true, true, false, true, false, false, false, false] rfl rfl (any_of rfl (by kernel_rfl)) (fun _ _ _ h => h) (Or.inl ⟨by rfl, ?_⟩) ?_ ?_
  rotate_left
  · intro w'
    go_simp
    with_reducible rfl
  rotate_left
  · simp only [Act.put, List.setIfInBounds_toArray, List.set_cons_zero, List.set_cons_succ, i64_w, i32_w]
    rfl
  refine take_ (i := 12) (N := some 46) (v := ?_) (a' := ?_) #[true, true, true, true, true, true, true, true, true, true, true, true, true, true, false, false, false, false] rfl rfl (take_of rfl (by kernel_rfl)) (fun _ _ _ h => h) (Or.inl ⟨by rfl, ?_⟩) hHeld ?_ ?_
  rotate_left
  · rintro w' ⟨s0, s1⟩
    go_simp
    with_reducible rfl
  rotate_left
  · simp only [Act.put, List.setIfInBounds_toArray, List.set_cons_zero, List.set_cons_succ, i64_w, i32_w]
    rfl
  obtain ⟨oki, ce, _, hM, hcc, _, hoki, hH⟩ := Kd.S_elem (Kd.S_mono (ok' := fun k => (okI k ∨ w.heap.size ≤ k) ∧ ¬ (w.heap.size ≤ k)) HI.out (fun k hk => ⟨.inl hk, by have := (H7.out k hk).2.2.2.2; omega⟩)) z30 (m : Int) (by omega) (by omega)
  have hgetD : I.getD (m : Int).toNat z30 = o := by rw [Int.toNat_natCast, List.getD_eq_getElem?_getD, HO_.out]; rfl
  rw [hgetD] at hM
  obtain ⟨v2, v3, v4, rfl, hr2, hr3, hr4⟩ := k30_openM hM
  have hv2 : v2 = .slice A2 o.f2.length c2 := by
    have h_ : w2.cell? ⟨gI, m * 5 + 2, none⟩ = some v2 := hcc 2 _ rfl
    exact Option.some.inj (h_.symm.trans E2.out)
  subst hv2
  have hki : ∀ k, oki k → okI k := fun k hk => (hoki k hk).1.1.elim id (fun h_ => absurd h_ (hoki k hk).1.2)
  have hown : ∀ k, (Value.slice A2 o.f2.length c2).ownBlock = some k → oki k := hr2.1
  obtain ⟨cellsI, hcI⟩ := Kd.S_typed HI.out gI (by simp [Value.ownBlock])
  have hty := Kd.R_typed hr2
  have hgne : some gI ≠ (Value.slice A2 o.f2.length c2).ownBlock := fun e_ => by
    obtain ⟨c_, hc_⟩ := hty gI e_.symm
    rw [hcI] at hc_; cases hc_
  refine one_ (i := 14) (N := some 48) #[true, true, true, true, true, true, true, true, true, true, true, true, true, true, true, false, false, false] rfl rfl (one_of rfl (by kernel_rfl)) (by decide) (fun K hK => ?_)
  refine Kd.R_append_rows_step (Kd.int .i32) (w0 := w) base (by rfl) (.tmp 46) (.tmp 47) 26 21 (.int .i32 0) 4 rfl Try.underlying26 info21 rfl (by decide) (by omega) (.slice A2 o.f2.length c2) o.f2 l Al l.length cl (fun k => oki k ∨ w2.heap.size ≤ k) (fun _ => False) rfl rfl (Kd.R_mono hr2 (fun k hk => .inl hk)) HL.out (fun _ _ h => h) (fun _ h => h.elim) (fun k hk => .inr hk) HB.out (Nat.le_trans hbase HZ.out) (by omega) ?_
  intro v5 w3 ho hb hg hat
  obtain ⟨A5, c5, rfl⟩ := Kd.R_slice ho
  replace BK := Aside0.mk (blk_grown BK.out hg (fun e_ => (H7.out p (hki p (hown p e_.symm))).2.2.1 rfl))
  replace HD := Aside0.mk (Kd.N_grown HD.out hg (fun k hk e_ => (H7.out k (hki k (hown k e_.symm))).2.2.2.1 hk))
  replace HK := Aside0.mk (Kept.of_grown hg HK.out (fun k e_ => .inl (H7.out k (hki k (hown k e_))).2.1))
  replace hH := Kd.H_grown hH hg hown
  replace hcI := blk_grown hcI hg hgne
  have hr3' := Kd.R_over' hr3 hty (by decide) hg
  have hr4' := Kd.R_over' hr4 hty (by decide) hg
  have hE2 : w3.cell? ⟨gI, m * 5 + 2, none⟩ = w2.cell? ⟨gI, m * 5 + 2, none⟩ := by have h_ := hg.block gI (World.block_lt_of_cell? w2 _ E2.out) hgne; simp only [World.cell?, h_]
  replace E2 := Aside0.mk (hE2.trans E2.out)
  replace HB := Aside0.mk hb
  have HP2 := Kd.S_seg hH (Int.natCast_nonneg m) (by omega) (seg := [.slice A5 (o.f2 ++ l).length c5]) (j := 2) (show 2 + 1 ≤ 5 from by decide) (x' := (⟨o.f0, o.f1, o.f2 ++ l, o.f3, o.f4⟩ : S30)) (k30_mkM _ _ _ (⟨o.f0, o.f1, o.f2 ++ l, o.f3, o.f4⟩ : S30) ho (Kd.R_mono hr3' (fun k hk => .inl hk)) (Kd.R_mono hr4' (fun k hk => .inl hk))) (fun k hk => hk.imp id (fun h_ => Nat.le_trans HZ.out h_)) (fun k hk => ⟨.inr hk, fun e_ => by have := HG.out; omega⟩)
  have HP3 := Aside0.mk HP2.1
  have HF := Aside0.mk (blk_frozen hcI (m * 5 + 2))
  clear HP2 hH hr2 hr3 hr4 hr3' hr4' ho hb hg hat hcI hty hM hcc hE2 HI
  refine hK.out _ _ ⟨((blk_cell BK.out 1).trans rfl), E2.out⟩ (fun hHeld => ?_)
  clear hK K
  refine norm_ (a' := ?_) ?_ ?_
  rotate_left
  · show Act.put _ (some 48) _ = _
    simp only [Act.put, List.setIfInBounds_toArray, List.set_cons_zero, List.set_cons_succ, i64_w, i32_w]
    rfl
  refine pure_ (i := 15) (N := some 49) (v := ?_) (a' := ?_) #[true, true, true, true, true, true, true, true, true, true, true, true, true, true, true, true, false, false] rfl rfl (any_of rfl (by kernel_rfl)) (fun _ _ _ h => h) (Or.inl ⟨by rfl, ?_⟩) ?_ ?_
  rotate_left
  · intro w'
    go_simp
    with_reducible rfl
  rotate_left
  · simp only [Act.put, List.setIfInBounds_toArray, List.set_cons_zero, List.set_cons_succ, i64_w, i32_w]
    rfl
  refine pure_ (i := 16) (N := some 50) (v := ?_) (a' := ?_) #[true, true, true, true, true, true, true, true, true, true, true, true, true, true, true, true, true, false] rfl rfl (any_of rfl (by kernel_rfl)) (fun _ _ _ h => h) (Or.inl ⟨by rfl, ?_⟩) ?_ ?_
  rotate_left
  · intro w'
    go_simp
    with_reducible rfl
  rotate_left
  · simp only [Act.put, List.setIfInBounds_toArray, List.set_cons_zero, List.set_cons_succ, i64_w, i32_w]
    rfl
  refine last_ (i := 17) (N := none) #[true, true, true, true, true, true, true, true, true, true, true, true, true, true, true, true, true, true] rfl rfl (one_of rfl (by kernel_rfl)) (by decide) (fun K hK => ?_)
  have c1 := E2.out
  have f1 := HF.out
  refine skip_ (w1 := w3.setCell ⟨gI, m * 5 + 2, none⟩ (.slice A5 (o.f2 ++ l).length c5)) (by rfl) rfl ?_ ?_
  · go_simp
    try rfl
  refine hK.out _ _ ?_
  clear hK K
  refine done_ (done_of rfl (by kernel_rfl)) ?_
  go_wp2
  refine bodyPost_ret (results_none rfl _ _ _) rfl ?_
  have hgI := HGI.out
  refine ⟨rfl, ⟨vD, _, okD, fun k => okI k ∨ w.heap.size ≤ k, (Below.heap_setCell w3 ⟨gI, m * 5 + 2, none⟩ _ p (fun e_ => (H7.out gI hgI).2.2.1 e_.symm)).trans BK.out, h2, .inl H3.out, Kd.N_far HD.out (p := ⟨gI, m * 5 + 2, none⟩) (fun k hk e_ => by have e2_ : k = gI := e_; subst e2_; exact (H7.out k hgI).2.2.2.1 hk) _, HP3.out, fun k hk => ⟨(H6.out k hk).1, .inl (H6.out k hk).2.1, (H6.out k hk).2.2.1⟩, fun k hk => hk.elim (fun h_ => ⟨(H7.out k h_).1, .inl (H7.out k h_).2.1, (H7.out k h_).2.2.1, (H7.out k h_).2.2.2.1⟩) (fun h_ => ⟨by omega, .inr h_, fun e_ => by have := HP.out; omega, fun hd => by have := (H6.out k hd).2.2.2; omega⟩)⟩, HK.out.setCell (p := ⟨gI, m * 5 + 2, none⟩) (.inl (H7.out gI hgI).2.1) _, HB.out.setCell (p := ⟨gI, m * 5 + 2, none⟩) (H7.out gI hgI).1 _⟩
end Go.Proofs.Ytmjeoknamoegpaa.P
