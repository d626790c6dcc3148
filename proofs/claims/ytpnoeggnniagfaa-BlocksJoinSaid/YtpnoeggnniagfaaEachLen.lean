import Derived.Test.YtpnoeggnniagfaaEach
namespace Go.Proofs.Ytpnoeggnniagfaa.P
open Go.RowKit Go.Shelf Go.Proofs.YtpnoeggnniagfaaW.PrintWords Go.Proofs.YtpnoeggnniagfaaW.PrintLast Go.Proofs.YtpnoeggnniagfaaW.PrintMore
set_option linter.unusedVariables false
attribute [local go_sem] Oper.semAt_some

theorem ownOne (nb : Nat) : EachOwn (fun W => nb < W.heap.size) (fun _ k => k = nb) where
  lt := fun g h => by subst h; exact g
  grow := fun g hg => ⟨Nat.lt_of_lt_of_le g hg.size, fun _ h => h⟩
  put := fun o' g _ _ => ⟨Nat.lt_of_lt_of_le g (grownBy_putObj' _ _ o').size, fun _ h => h⟩

theorem EachKp.setOne {nb : Nat} {W : World} (hlt : nb < W.heap.size) (v : Value) : EachKp (fun W => nb < W.heap.size) (fun _ k => k = nb) W (W.setCell ⟨nb, 0, none⟩ v) := by
  intro g
  have hg := grownBy_setCell' W nb v
  refine ⟨Nat.lt_of_lt_of_le g hg.size, hg.size, fun k cs t f hk ho => (hg.block k (Array.getElem?_eq_some_iff.1 hk).1 (fun e => ho (by cases e; rfl))).trans hk, fun k hk => .inl hk⟩
/-- n = at + b.N, at the last block. -/
def lenP (xs : List S34) : Int := atP xs xs.length

def valP (xs : List S34) (pre : List (Fin xs.length)) : Int := match pre.getLast? with | none => 0 | some x => atP xs (x.1 + 1)
theorem valP_snoc (xs : List S34) (pre : List (Fin xs.length)) (x : Fin xs.length) : valP xs (pre ++ [x]) = wrap64 (atP xs x.1 + (xs[x.1]'x.2).f0) := by
  unfold valP
  simp [atP_succ]
theorem valP_all (xs : List S34) : valP xs (List.finRange xs.length) = atP xs xs.length := by
  unfold valP
  rcases Nat.eq_zero_or_pos xs.length with hz | hz
  · obtain rfl := List.eq_nil_of_length_eq_zero hz
    rfl
  · rw [List.getLast?_eq_getElem?, List.getElem?_eq_getElem (by simp; omega)]
    simp
    congr 1
    omega

set_option maxRecDepth 100000 in
set_option maxHeartbeats 8000000 in
theorem Len_in (F : Fence) (n : Nat) (h13 : F.fn 13) (h25 : F.fn 25) (h30 : F.fn 30) (hro : F.round = none) (hn : 6 ≤ n) (A : Option Addr) (cap : Nat) (xs : List S34) (hreach : xs.length * 32 ≤ 140737488351232) (w : World) (hC : Kd.C k34 w A xs.length xs) :
    CallsIn F n Try.prog 13 #[.slice A xs.length cap] w fun e W' => e = .returned (.int .i64 (atP xs xs.length)) ∧ Below w.heap.size w W' := by
  have h1 : 1 ≤ n := by omega
  obtain ⟨As, Cs, hEC, hin⟩ := eachCells_of hC
  refine callsIn_of_wp_marks Try.func13 rfl h13 ?_ hro
  simp only [Try.ntmps13, List.size_toArray, List.length_cons, List.length_nil, Nat.reduceAdd, Nat.reduceSub, Array.replicate_succ, Array.replicate_zero, List.push_toArray, List.append_toArray, List.nil_append, List.cons_append]
  gi_wp2_with (gi_at_call 25; refine (each_in F (n - 1) h25 hro _ _ _ _).mono ?_; rintro e w' ⟨rfl, rfl⟩)
  have bN := (Boxed.new w 3 (.int .i64 0)).alloc (.cells #[.slice A xs.length cap] 27)
  have bL := Boxed.new (w.alloc (.cells #[.int .i64 0] 3)) 27 (.slice A xs.length cap)
  simp only [World.size_alloc] at bL
  have hB0 : Below w.heap.size w ((w.alloc (.cells #[.int .i64 0] 3)).alloc (.cells #[.slice A xs.length cap] 27)) := ((Below.refl _ w).alloc (Nat.le_refl _) _).alloc (by simp) _
  have hsz : ((w.alloc (.cells #[.int .i64 0] 3)).alloc (.cells #[.slice A xs.length cap] 27)).heap.size = w.heap.size + 2 := by simp
  obtain ⟨W0, hW0⟩ : ∃ W0, (w.alloc (.cells #[.int .i64 0] 3)).alloc (.cells #[.slice A xs.length cap] 27) = W0 := ⟨_, rfl⟩
  rw [hW0] at bN bL hB0 hsz ⊢
  clear hW0
  have hAd : ∀ ad, A = some ad → 0 < xs.length → ad.block < w.heap.size := by
    intro ad e hp
    obtain ⟨ad2, e2, x0, _⟩ := hEC 0 hp
    rw [e] at e2; cases e2
    have := World.block_lt_of_cell? w _ x0
    rwa [add_block] at this
  refine wpIn_rangeFunc_ownH hro h1 (gf := 30) (lb := #[.pointer (some ⟨w.heap.size + 1, 0, none⟩)]) rfl h30 (enters_of Try.func30 (by kernel_rfl) rfl)
    (each_stops F (n - 1) h30 hro (by omega) (w.heap.size + 1) A cap xs As Cs _ _ (ownOne w.heap.size) hreach W0 (fun W hW => ⟨by have := hW.size; omega, fun k _ h => h⟩) bL (by show ¬ (w.heap.size + 1 = w.heap.size); omega)
      (fun ad e hp => by have := hAd ad e hp; show ¬ (ad.block = w.heap.size); omega) (hEC.below hB0)) (fun h k => EachKp.trans h k) (fun W l o o' _ hl hc _ => EachKp.put (ownOne w.heap.size) W l o o' hl hc) (Below.refl _ _) (fun _ => rfl)
    (fun pre W => (Boxed W w.heap.size 3 (.int .i64 (valP xs pre)) ∧ Boxed W (w.heap.size + 1) 27 (.slice A xs.length cap)) ∧ Below w.heap.size w W)
    (fun _ _ _ => False)
    (OwnFrom.and (OwnFrom.and (Own.from (boxed_own _ _ _) _) (Own.from (boxed_own _ _ _) _)) (ownFrom_below (Nat.le_refl _) (by omega)))
    (fun _ _ _ _ _ hs _ _ => hs)
    ⟨⟨bN, bL⟩, hB0⟩
    (fun x a' W => ∃ Bx, w.heap.size + 1 < Bx ∧ W.heap[Bx]? = some (.cells #[.int .i64 (xs[x.1]'x.2).f0, .slice (As x.1) (xs[x.1]'x.2).f1.length (Cs x.1)] 34 (0, 0)) ∧ a' = { tmps := #[.slice A xs.length cap, undef, .int .i64 0, .pointer (some ⟨w.heap.size, 0, none⟩), .int .i64 (atP xs x.1), .pointer (some ⟨Bx, 0, none⟩), .slice A xs.length cap, .func (.func 30) #[] #[.pointer (some ⟨w.heap.size + 1, 0, none⟩)], .int .i64 (atP xs x.1), .agg #[.int .i64 (xs[x.1]'x.2).f0, .slice (As x.1) (xs[x.1]'x.2).f1.length (Cs x.1)], undef, undef, undef, undef, undef], defers := [] })
    (fun x a' _ X Y row hs hg hr => by
      obtain ⟨Bx, h1, h2, h3⟩ := hs
      refine ⟨Bx, h1, (hg.block Bx (Array.getElem?_eq_some_iff.1 h2).1 (fun e => ?_)).trans h2, h3⟩
      obtain ⟨_, o, ho, hc⟩ := hr Bx e.symm
      rw [h2] at ho; cases ho; simp [Obj.isCells] at hc)
    ?assign ?body ?done ?stop
  case assign =>
    rintro l pre x W K ⟨⟨bN1, bL1⟩, hB1⟩ hK
    simp only [encB]
    gi_wp2
    exact hK _ _ ((KeepsOthers.alloc _ _).from _) (EachKp.grow (ownOne w.heap.size) (World.grownBy_alloc _ _ none)) ⟨⟨bN1.alloc _, bL1.alloc _⟩, hB1.alloc hB1.size _⟩ ⟨W.heap.size, bL1.lt, World.alloc_heap_new W _, rfl⟩
  case body =>
    rintro l pre x a' W hl ⟨r, hr⟩ ⟨⟨bN1, bL1⟩, hB1⟩ ⟨Bx, hBx, bX, rfl⟩ hlt
    have cN := bN1.cell
    have fN := bN1.frozen
    have cX : W.cell? ⟨Bx, 0, none⟩ = some (.int .i64 (xs[x.1]'x.2).f0) := by simp [World.cell?, bX]
    gi_wp2
    refine ⟨(KeepsOthers.setCell _ _ _).from _, EachKp.setOne bN1.lt _, ⟨by rw [valP_snoc]; exact bN1.set _, bL1.other (by omega) _⟩, hB1.setCell (p := ⟨w.heap.size, 0, none⟩) (Nat.le_refl _) _⟩
  case done =>
    rintro D zs W hD rfl ⟨⟨bN1, bL1⟩, hB1⟩ hK
    have cN := bN1.cell
    gi_wp2
    refine ⟨by simp, .inl ⟨_, _, rfl, run_takeDeferred hK, ?_⟩⟩
    exact ⟨_, results_tmp rfl _ _ _, by rw [valP_all]; rfl, hB1.trans (belowK_b (w := w) (Nat.le_refl _) W D _ _ (by omega) hK rfl rfl)⟩
  case stop =>
    rintro D c pre W _ _ h _
    exact h.elim
def blocks_Len.f (l0 : List S34) : Option Int := if l0.length * 32 ≤ 140737488351232 then some (atP l0 l0.length) else none
theorem blocks_Len.calls (A0 : Option Addr) (c0 : Nat) (l0 : List (S34)) (r : Int) (w : World) (hr0 : Kd.C k34 w A0 l0.length l0) (hc0 : l0.length ≤ c0) (h : blocks_Len.f l0 = some r) :
    Calls Try.prog 13 #[.slice A0 l0.length c0] w fun e w' => e = .returned (.int .i64 r) ∧ Below w.heap.size w w' := by
  unfold blocks_Len.f at h
  split at h
  · cases h
    exact callsIn_wide.1 (Len_in Fence.wide 6 trivial trivial trivial rfl (by omega) A0 c0 l0 (by assumption) w hr0)
  · cases h
end Go.Proofs.Ytpnoeggnniagfaa.P
