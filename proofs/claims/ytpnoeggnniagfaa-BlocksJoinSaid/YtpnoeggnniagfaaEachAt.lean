import Derived.Test.YtpnoeggnniagfaaEachLen
namespace Go.Proofs.Ytpnoeggnniagfaa.P
open Go.RowKit Go.Shelf Go.Proofs.YtpnoeggnniagfaaW.PrintWords Go.Proofs.YtpnoeggnniagfaaW.PrintLast Go.Proofs.YtpnoeggnniagfaaW.PrintMore
set_option linter.unusedVariables false
attribute [local go_sem] Oper.semAt_some

theorem ownNone : EachOwn (fun _ => True) (fun _ _ => False) where
  lt := fun _ h => h.elim
  grow := fun _ _ => ⟨trivial, fun _ h => h⟩
  put := fun _ _ _ _ => ⟨trivial, fun _ h => h⟩

theorem EachKp.refl' (W : World) : EachKp (fun _ => True) (fun _ _ => False) W W := fun _ => ⟨trivial, Nat.le_refl _, fun _ _ _ _ h _ => h, fun _ h => h.elim⟩
theorem KeepsFrom.of_below {B : Nat} {W W' : World} (h : Below W.heap.size W W') : KeepsFrom B W W' := ⟨h.size, fun k o _ hk _ => (h.block k (Array.getElem?_eq_some_iff.1 hk).1).trans hk⟩
def hitP (xs : List S34) (i : Int) (x : Fin xs.length) : Bool := decide (atP xs x.1 ≤ i) && decide (i < wrap64 (atP xs x.1 + (xs[x.1]'x.2).f0))

theorem R_turn {α : Type} {d : Kd α} {e base : Nat} {ok : Nat → Prop} {v : Value} {xs : List α} {W W' : World} {row : Option Nat} (h : Kd.R d e W base ok v xs) (hg : W.grownBy W' row) (hr : ∀ r, row = some r → ∃ o : Obj, W.heap[r]? = some o ∧ o.isCells = false) : Kd.R d e W' base ok v xs :=
  Kd.R_mono (Kd.R_grown (Kd.R_bound h) hg (fun k hk e => by
    obtain ⟨_, _, _, q, _, cells, hc⟩ := hk
    obtain ⟨o, ho, hn⟩ := hr k e.symm
    rw [hc] at ho; cases ho; simp [Obj.isCells] at hn)) (fun _ hk => hk.1)

set_option maxRecDepth 100000 in
set_option maxHeartbeats 8000000 in
theorem At_in (n : Nat) (hn : 6 ≤ n) (A : Option Addr) (cap : Nat) (xs : List S34) (i : Int) (hreach : xs.length * 32 ≤ 140737488351232) (hsets : ∀ b ∈ xs, b.f1.length < 2932031007402) (w : World) (hC : Kd.C k34 w A xs.length xs) :
    CallsIn Fence.wide n Try.prog 14 #[.slice A xs.length cap, .int .i64 i] w fun e W' => ∃ v0_ : Value, e = .returned (.tuple #[v0_, .bool ((List.finRange xs.length).find? (hitP xs i)).isSome]) ∧
      Kd.R k46 46 W' w.heap.size (fun _ => True) v0_ (((List.finRange xs.length).find? (hitP xs i)).elim [] (fun x => (xs[x.1]'x.2).f1)) ∧ Below w.heap.size w W' := by
  have h1 : 1 ≤ n := by omega
  have hro : Fence.wide.round = none := rfl
  obtain ⟨As, Cs, hEC, hin⟩ := eachCells_of hC
  refine callsIn_of_wp_marks Try.func14 rfl trivial ?_ hro
  simp only [Try.ntmps14, List.size_toArray, List.length_cons, List.length_nil, Nat.reduceAdd, Nat.reduceSub, Array.replicate_succ, Array.replicate_zero, List.push_toArray, List.append_toArray, List.nil_append, List.cons_append]
  gi_wp2_with ((refine ⟨trivial, ?_⟩; gi_at_call 25; refine (each_in Fence.wide (n - 1) trivial hro _ _ _ _).mono ?_; rintro e w' ⟨rfl, rfl⟩))
  have b0 := (((Boxed.new w 3 (.int .i64 i)).alloc (.cells #[.slice none 0 0] 24)).alloc (.cells #[.bool false] 4)).alloc (.cells #[.slice A xs.length cap] 27)
  have b1 := ((Boxed.new (w.alloc (.cells #[.int .i64 i] 3)) 24 (.slice none 0 0)).alloc (.cells #[.bool false] 4)).alloc (.cells #[.slice A xs.length cap] 27)
  have b2 := (Boxed.new ((w.alloc (.cells #[.int .i64 i] 3)).alloc (.cells #[.slice none 0 0] 24)) 4 (.bool false)).alloc (.cells #[.slice A xs.length cap] 27)
  have b3 := Boxed.new (((w.alloc (.cells #[.int .i64 i] 3)).alloc (.cells #[.slice none 0 0] 24)).alloc (.cells #[.bool false] 4)) 27 (.slice A xs.length cap)
  simp only [World.size_alloc] at b1 b2 b3
  have hB0 : Below w.heap.size w ((((w.alloc (.cells #[.int .i64 i] 3)).alloc (.cells #[.slice none 0 0] 24)).alloc (.cells #[.bool false] 4)).alloc (.cells #[.slice A xs.length cap] 27)) := ((((Below.refl _ w).alloc (Nat.le_refl _) _).alloc (by simp) _).alloc (by simp; omega) _).alloc (by simp; omega) _
  have hsz : ((((w.alloc (.cells #[.int .i64 i] 3)).alloc (.cells #[.slice none 0 0] 24)).alloc (.cells #[.bool false] 4)).alloc (.cells #[.slice A xs.length cap] 27)).heap.size = w.heap.size + 4 := by simp
  obtain ⟨W0, hW0⟩ : ∃ W0, (((w.alloc (.cells #[.int .i64 i] 3)).alloc (.cells #[.slice none 0 0] 24)).alloc (.cells #[.bool false] 4)).alloc (.cells #[.slice A xs.length cap] 27) = W0 := ⟨_, rfl⟩
  rw [hW0] at b0 b1 b2 b3 hB0 hsz ⊢
  clear hW0
  refine wpIn_rangeFunc_ownH hro h1 (gf := 30) (lb := #[.pointer (some ⟨w.heap.size + 1 + 1 + 1, 0, none⟩)]) rfl trivial (enters_of Try.func30 (by kernel_rfl) rfl)
    (each_stops Fence.wide (n - 1) trivial hro (by omega) (w.heap.size + 1 + 1 + 1) A cap xs As Cs _ _ ownNone hreach W0 (fun W hW => ⟨trivial, fun k _ h => h⟩) b3 (fun h => h)
      (fun ad e hp h => h) (hEC.below hB0)) (fun h k => EachKp.trans h k) (fun W l o o' _ hl hc _ => EachKp.put ownNone W l o o' hl hc) (Below.refl _ _) (fun _ => rfl)
    (fun pre W => ((∀ x ∈ pre, hitP xs i x = false) ∧ Boxed W w.heap.size 3 (.int .i64 i) ∧ Boxed W (w.heap.size + 1) 24 (.slice none 0 0) ∧ Boxed W (w.heap.size + 1 + 1) 4 (.bool false) ∧ Boxed W (w.heap.size + 1 + 1 + 1) 27 (.slice A xs.length cap)) ∧ Below w.heap.size w W)
    (fun c pre W => (c = .ret ∧ ∃ ini x, pre = ini ++ [x] ∧ (∀ y ∈ ini, hitP xs i y = false) ∧ hitP xs i x = true ∧ ∃ v, Boxed W (w.heap.size + 1) 24 v ∧ Boxed W (w.heap.size + 1 + 1) 4 (.bool true) ∧ Kd.R k46 46 W w.heap.size (fun _ => True) v (xs[x.1]'x.2).f1) ∧ Below w.heap.size w W)
    (OwnFrom.and (OwnFrom.and (ownFrom_pure _ _) (OwnFrom.and (Own.from (boxed_own _ _ _) _) (OwnFrom.and (Own.from (boxed_own _ _ _) _) (OwnFrom.and (Own.from (boxed_own _ _ _) _) (Own.from (boxed_own _ _ _) _))))) (ownFrom_below (Nat.le_refl _) (by omega)))
    (fun c => OwnFrom.and (fun s X Y row hs hg hr => by
        obtain ⟨h1, ini, x, h2, h3, h4, v, h5, h6, h7⟩ := hs
        exact ⟨h1, ini, x, h2, h3, h4, v, boxed_own _ 24 (fun (_ : Unit) => v) () X Y row h5 hg (fun r e => (hr r e).2), boxed_own _ 4 (fun (_ : Unit) => Value.bool true) () X Y row h6 hg (fun r e => (hr r e).2), R_turn h7 hg (fun r e => (hr r e).2)⟩) (ownFrom_below (Nat.le_refl _) (by omega)))
    ⟨⟨by simp, b0, b1, b2, b3⟩, hB0⟩
    (fun x a' W => ∃ Bx, w.heap.size + 1 + 1 + 1 < Bx ∧ W.heap[Bx]? = some (.cells #[.int .i64 (xs[x.1]'x.2).f0, .slice (As x.1) (xs[x.1]'x.2).f1.length (Cs x.1)] 34 (0, 0)) ∧ a' = { tmps := #[.slice A xs.length cap, .int .i64 i, undef, .pointer (some ⟨w.heap.size, 0, none⟩), .pointer (some ⟨w.heap.size + 1, 0, none⟩), .pointer (some ⟨w.heap.size + 1 + 1, 0, none⟩), .int .i64 (atP xs x.1), .pointer (some ⟨Bx, 0, none⟩), .slice A xs.length cap, .func (.func 30) #[] #[.pointer (some ⟨w.heap.size + 1 + 1 + 1, 0, none⟩)], .int .i64 (atP xs x.1), .agg #[.int .i64 (xs[x.1]'x.2).f0, .slice (As x.1) (xs[x.1]'x.2).f1.length (Cs x.1)], undef, undef, undef, undef, undef, undef, undef, undef, undef, undef, undef, undef, undef, undef], defers := [] })
    (fun x a' _ X Y row hs hg hr => by
      obtain ⟨Bx, h1, h2, h3⟩ := hs
      refine ⟨Bx, h1, (hg.block Bx (Array.getElem?_eq_some_iff.1 h2).1 (fun e => ?_)).trans h2, h3⟩
      obtain ⟨_, o, ho, hc⟩ := hr Bx e.symm
      rw [h2] at ho; cases ho; simp [Obj.isCells] at hc)
    ?assign ?body ?done ?stop
  case assign =>
    rintro l pre x W K ⟨⟨hp, c0, c1, c2, c3⟩, hB1⟩ hK
    simp only [encB]
    gi_wp2
    exact hK _ _ ((KeepsOthers.alloc _ _).from _) (EachKp.grow ownNone (World.grownBy_alloc _ _ none)) ⟨⟨hp, c0.alloc _, c1.alloc _, c2.alloc _, c3.alloc _⟩, hB1.alloc hB1.size _⟩ ⟨W.heap.size, c3.lt, World.alloc_heap_new W _, rfl⟩
  case body =>
    rintro l pre x a' W hl ⟨r, hr⟩ ⟨⟨hp, c0, c1, c2, c3⟩, hB1⟩ ⟨Bx, hBx, bX, rfl⟩ hlt
    have cI := c0.cell
    have h1' : 1 ≤ n - 1 - 1 := by omega
    have cX : W.cell? ⟨Bx, 0, none⟩ = some (.int .i64 (xs[x.1]'x.2).f0) := by simp [World.cell?, bX]
    have cY : W.cell? ⟨Bx, 1, none⟩ = some (.slice (As x.1) (xs[x.1]'x.2).f1.length (Cs x.1)) := by simp [World.cell?, bX]
    have hd : xs.getD x.1 z34 = xs[x.1]'x.2 := by simp
    have hset := hin x.1 x.2
    rw [hd] at hset
    by_cases ha : atP xs x.1 ≤ i
    · have ha0 : decide (atP xs x.1 ≤ i) = true := decide_eq_true ha
      by_cases hb : i < wrap64 (atP xs x.1 + (xs[x.1]'x.2).f0)
      · have hb0 : decide (i < wrap64 (atP xs x.1 + (xs[x.1]'x.2).f0)) = true := decide_eq_true hb
        have hCl := api_Attr_26.calls (As x.1) (Cs x.1) (xs[x.1]'x.2).f1 (xs[x.1]'x.2).f1 W (Kd.C_below hset.2 hB1) hset.1 (by simp [api_Attr_26.f, hsets _ (List.getElem_mem x.2)])
        gi_wp2_with (refine ⟨trivial, ?_⟩; gi_at_call 26; refine (CallsIn.inRound l (callsIn_wide.2 hCl)).mono ?_; rintro e W2 ⟨v, rfl, hv, hb2⟩; obtain ⟨Ao, co, rfl⟩ := Kd.R_slice hv; have d1 : Boxed W2 (w.heap.size + 1) 24 (.slice none 0 0) := (hb2.block _ c1.lt).trans c1; have d2 : Boxed W2 (w.heap.size + 1 + 1) 4 (.bool false) := (hb2.block _ c2.lt).trans c2; have e1 := d1.cell; have e2 := d2.cell; have f1 := d1.frozen; have f2 := d2.frozen)
        have hbW := hB1.trans (hb2.mono hB1.size)
        have hv' := Kd.R_lower (Kd.R_mono (ok' := fun _ => True) (Kd.R_far (p := ⟨w.heap.size + 1 + 1, 0, none⟩) (Kd.R_far (p := ⟨w.heap.size + 1, 0, none⟩) (Kd.R_bound hv) (fun k hk => by have h_ := c1.lt; have h2_ := hk.2.1; show k ≠ w.heap.size + 1; omega) (.slice Ao (xs[x.1]'x.2).f1.length co)) (fun k hk => by have h_ := c2.lt; have h2_ := hk.2.1; show k ≠ w.heap.size + 1 + 1; omega) (.bool true)) (fun _ _ => trivial)) hB1.size
        refine ⟨(((KeepsFrom.of_below hb2).trans ((KeepsOthers.setCell _ _ _).from _)).trans ((KeepsOthers.setCell _ _ _).from _)), ⟨rfl, pre, x, rfl, hp, by simp [hitP, ha, hb], .slice Ao (xs[x.1]'x.2).f1.length co, (d1.set _).other (by omega) _, (d2.other (by omega) _).set _, hv'⟩, (hbW.setCell (p := ⟨w.heap.size + 1, 0, none⟩) (by simp) _).setCell (p := ⟨w.heap.size + 1 + 1, 0, none⟩) (by simp; omega) _⟩
      · have hb0 : decide (i < wrap64 (atP xs x.1 + (xs[x.1]'x.2).f0)) = false := decide_eq_false hb
        gi_wp2
        exact ⟨KeepsFrom.refl _ _, EachKp.refl' _, ⟨fun y hy => (List.mem_append.1 hy).elim (hp y) (fun e => by simp at e; subst e; simp only [hitP, hb0, Bool.and_false]), c0, c1, c2, c3⟩, hB1⟩
    · have ha0 : decide (atP xs x.1 ≤ i) = false := decide_eq_false ha
      gi_wp2
      exact ⟨KeepsFrom.refl _ _, EachKp.refl' _, ⟨fun y hy => (List.mem_append.1 hy).elim (hp y) (fun e => by simp at e; subst e; simp only [hitP, ha0, Bool.false_and]), c0, c1, c2, c3⟩, hB1⟩
  case done =>
    rintro D zs W hD rfl ⟨⟨hp, c0, c1, c2, c3⟩, hB1⟩ hK
    have f1 := c1.frozen
    have f2 := c2.frozen
    have g1 := c1.cell
    have g2 := c2.cell
    gi_wp2
    have k1 := (c1.set (.slice none 0 0)).other (B' := w.heap.size + 1 + 1) (by omega) (.bool false)
    have k2 := (c2.other (B' := w.heap.size + 1) (by omega) (.slice none 0 0)).set (.bool false)
    have hK' := (KeepsOthers.setCell (W.setCell ⟨w.heap.size + 1, 0, none⟩ (.slice none 0 0)) ⟨w.heap.size + 1 + 1, 0, none⟩ (.bool false)).same D _ ((KeepsOthers.setCell W ⟨w.heap.size + 1, 0, none⟩ (.slice none 0 0)).same D _ hK rfl) rfl
    refine ⟨by simp, .inl ⟨_, _, rfl, run_takeDeferred hK', ?_⟩⟩
    have y1 := cell_kept k1.cell (grownBy_putObj' _ D (.deferred none)) (fun r e => by cases e; exact ⟨_, hK', rfl⟩)
    have y2 := cell_kept k2.cell (grownBy_putObj' _ D (.deferred none)) (fun r e => by cases e; exact ⟨_, hK', rfl⟩)
    have hnf : (List.finRange xs.length).find? (hitP xs i) = none := List.find?_eq_none.2 (fun x hx => by simp [hp x hx])
    rw [hnf]
    refine ⟨.tuple #[.slice none 0 0, .bool false], ?_, .slice none 0 0, rfl, Kd.R_nil _ _ _ _ _, ((hB1.setCell (p := ⟨w.heap.size + 1, 0, none⟩) (by simp) _).setCell (p := ⟨w.heap.size + 1 + 1, 0, none⟩) (by simp; omega) _).trans (belowK_b (w := w) (Nat.le_refl _) _ D _ _ (by omega) hK' rfl rfl)⟩
    simp [results, Try.f14, go_sem, y1, y2]
  case stop =>
    rintro D c pre W hD ⟨k, hk, rfl⟩ ⟨⟨rfl, ini, x, h2, h3, h4, v, h5, h6, h7⟩, hB1⟩ hK
    have g1 := h5.cell
    have g2 := h6.cell
    gi_wp2
    refine ⟨by simp, .inl ⟨_, _, rfl, run_takeDeferred hK, ?_⟩⟩
    have y1 := cell_kept g1 (grownBy_putObj' _ D (.deferred none)) (fun r e => by cases e; exact ⟨_, hK, rfl⟩)
    have y2 := cell_kept g2 (grownBy_putObj' _ D (.deferred none)) (fun r e => by cases e; exact ⟨_, hK, rfl⟩)
    have hsf : (List.finRange xs.length).find? (hitP xs i) = some x := by
      rw [List.find?_eq_some_iff_append]
      refine ⟨h4, ini, (List.finRange xs.length).drop (k + 1), ?_, fun y hy => by simp [h3 y hy]⟩
      have := List.take_append_drop (k + 1) (List.finRange xs.length)
      rw [h2] at this
      rw [List.append_assoc, List.singleton_append] at this
      exact this.symm
    rw [hsf]
    refine ⟨.tuple #[v, .bool true], ?_, v, rfl, R_turn h7 (grownBy_putObj' _ D (.deferred none)) (fun r e => by cases e; exact ⟨_, hK, rfl⟩), hB1.trans (belowK_b (w := w) (Nat.le_refl _) W D _ _ (by omega) hK rfl rfl)⟩
    simp [results, Try.f14, go_sem, y1, y2]
def blocks_At.f (l0 : List (S34)) (a1 : Int) : Option ((List (S46)) × Bool) :=
  if l0.length * 32 ≤ 140737488351232 ∧ ∀ b ∈ l0, b.f1.length < 2932031007402 then
    some (((List.finRange l0.length).find? (hitP l0 a1)).elim [] (fun x => (l0[x.1]'x.2).f1), ((List.finRange l0.length).find? (hitP l0 a1)).isSome) else none
theorem blocks_At.calls (A0 : Option Addr) (c0 : Nat) (l0 : List (S34)) (a1 : Int) (r1 : List (S46)) (r2 : Bool) (w : World) (hr0 : Kd.C k34 w A0 l0.length l0) (hc0 : l0.length ≤ c0) (h : blocks_At.f l0 a1 = some (r1, r2)) :
    Calls Try.prog 14 #[.slice A0 l0.length c0, .int .i64 a1] w fun e w' => ∃ v0_ : Value, e = .returned (.tuple #[v0_, .bool r2]) ∧ Kd.R k46 46 w' w.heap.size (fun _ => True) v0_ r1 ∧ Below w.heap.size w w' := by
  unfold blocks_At.f at h
  split at h
  · rename_i hc
    cases h
    exact callsIn_wide.1 (At_in 6 (by omega) A0 c0 l0 a1 hc.1 hc.2 w hr0)
  · cases h
end Go.Proofs.Ytpnoeggnniagfaa.P
