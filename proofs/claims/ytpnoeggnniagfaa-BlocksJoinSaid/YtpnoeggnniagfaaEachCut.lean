import Derived.Test.YtpnoeggnniagfaaEachAt
import Derived.Test.YtpnoeggnniagfaaQ0
namespace Go.Proofs.Ytpnoeggnniagfaa.P
open Go.RowKit Go.Shelf Go.Proofs.YtpnoeggnniagfaaW.PrintWords Go.Proofs.YtpnoeggnniagfaaW.PrintLast Go.Proofs.YtpnoeggnniagfaaW.PrintMore
set_option linter.unusedVariables false
set_option linter.unusedSimpArgs false
attribute [local go_sem] Oper.semAt_some
attribute [local go_sem] max2_int min2_int max_two min_two max_three min_three max_four min_four

def cutP (xs : List S34) (i j : Int) (pre : List (Fin xs.length)) : List S34 :=
  pre.foldl (fun out x => addP out (wrap64 (mn (wrap64 (atP xs x.1 + (xs[x.1]'x.2).f0)) j - mx (atP xs x.1) i)) (xs[x.1]'x.2).f1) []
theorem cutP_snoc (xs : List S34) (i j : Int) (pre : List (Fin xs.length)) (x : Fin xs.length) : cutP xs i j (pre ++ [x]) = addP (cutP xs i j pre) (wrap64 (mn (wrap64 (atP xs x.1 + (xs[x.1]'x.2).f0)) j - mx (atP xs x.1) i)) (xs[x.1]'x.2).f1 := by
  simp [cutP]
theorem foldl_len {α : Type} (f : List S34 → α → List S34) (hf : ∀ o x, (f o x).length ≤ o.length + 1) : ∀ (l : List α) (o : List S34), (l.foldl f o).length ≤ o.length + l.length
  | [], o => by simp
  | x :: l, o => by
    have h1 := foldl_len f hf l (f o x)
    have h2 := hf o x
    simp only [List.foldl_cons, List.length_cons]; omega
theorem foldl_all {α : Type} (P : List S46 → Prop) (f : List S34 → α → List S34) (hf : ∀ o x, (∀ b ∈ o, P b.f1) → ∀ b ∈ f o x, P b.f1) : ∀ (l : List α) (o : List S34), (∀ b ∈ o, P b.f1) → ∀ b ∈ l.foldl f o, P b.f1
  | [], o, h => by simpa using h
  | x :: l, o, h => foldl_all P f hf l (f o x) (hf o x h)
theorem cutP_length (xs : List S34) (i j : Int) (pre : List (Fin xs.length)) : (cutP xs i j pre).length ≤ pre.length := by
  have := foldl_len (fun (out : List S34) (x : Fin xs.length) => addP out (wrap64 (mn (wrap64 (atP xs x.1 + (xs[x.1]'x.2).f0)) j - mx (atP xs x.1) i)) (xs[x.1]'x.2).f1) (fun o x => addP_length _ _ _) pre []
  simpa [cutP] using this
theorem cutP_sets (xs : List S34) (P : List S46 → Prop) (hP : ∀ b ∈ xs, P b.f1) (i j : Int) (pre : List (Fin xs.length)) : ∀ b ∈ cutP xs i j pre, P b.f1 :=
  foldl_all P (fun (out : List S34) (x : Fin xs.length) => addP out (wrap64 (mn (wrap64 (atP xs x.1 + (xs[x.1]'x.2).f0)) j - mx (atP xs x.1) i)) (xs[x.1]'x.2).f1) (fun o x ho => addP_sets _ _ _ ho (hP _ (List.getElem_mem x.2))) pre [] (by simp)

def GOut (ob : Nat) (W : World) : Prop := ∃ v, Boxed W ob 27 v ∧ ∀ k, v.ownBlock = some k → k < W.heap.size
def OOut (ob : Nat) (W : World) (k : Nat) : Prop := k = ob ∨ ∃ v, Boxed W ob 27 v ∧ v.ownBlock = some k
theorem boxed_same {W W' : World} {B t : Nat} {v v' : Value} (h : Boxed W B t v) (h' : Boxed W' B t v') (he : W'.heap[B]? = W.heap[B]?) : v' = v := by
  unfold Boxed at h h'
  rw [he, h] at h'
  cases h'; rfl
theorem ownOut (ob : Nat) : EachOwn (GOut ob) (OOut ob) where
  lt := fun ⟨v, hb, hl⟩ h => by
    rcases h with rfl | ⟨v', hb', hk⟩
    · exact hb.lt
    · rw [boxed_same hb hb' rfl] at hk; exact hl _ hk
  grow := fun {A B} ⟨v, hb, hl⟩ hg => by
    have he := hg.block ob hb.lt (by simp)
    refine ⟨⟨v, he.trans hb, fun k hk => Nat.lt_of_lt_of_le (hl k hk) hg.size⟩, fun k h => ?_⟩
    rcases h with rfl | ⟨v', hb', hk⟩
    · exact .inl rfl
    · rw [boxed_same hb hb' he] at hk; exact .inr ⟨v, hb, hk⟩
  put := fun {W l o} o' ⟨v, hb, hl⟩ hlo hc => by
    have hg := grownBy_putObj' W l o'
    have he := hg.block ob hb.lt (fun e => by cases e; rw [show W.heap[ob]? = _ from hb] at hlo; cases hlo; simp [Obj.isCells] at hc)
    refine ⟨⟨v, he.trans hb, fun k hk => Nat.lt_of_lt_of_le (hl k hk) hg.size⟩, fun k h => ?_⟩
    rcases h with rfl | ⟨v', hb', hk⟩
    · exact .inl rfl
    · rw [boxed_same hb hb' he] at hk; exact .inr ⟨v, hb, hk⟩

theorem S_turn {α : Type} {d : Kd α} {e base : Nat} {ok : Nat → Prop} {v : Value} {xs : List α} {W W' : World} {row : Option Nat} (h : Kd.S d e W base ok v xs) (hg : W.grownBy W' row) (hr : ∀ r, row = some r → ∃ o : Obj, W.heap[r]? = some o ∧ o.isCells = false) : Kd.S d e W' base ok v xs :=
  Kd.S_mono (Kd.S_grown (Kd.S_bound h) hg (fun k hk e => by
    obtain ⟨_, _, _, q, _, cells, hc⟩ := hk
    obtain ⟨o, ho, hn⟩ := hr k e.symm
    rw [hc] at ho; cases ho; simp [Obj.isCells] at hn)) (fun _ hk => hk.1)
/-- A round's own steps: add keeps what is not the row's block, then the row's box is written. -/
theorem cut_keeps {ob : Nat} {W W2 : World} {v v1 : Value} (hb : Boxed W ob 27 v) (hvl : ∀ k, v.ownBlock = some k → k < W.heap.size) (hv1 : ∀ k, v1.ownBlock = some k → k < W2.heap.size) (hobv : ∀ k, v.ownBlock = some k → k ≠ ob)
    (hK : KeptOut v.ownBlock W W2) (hat : v1.ownBlock = v.ownBlock ∨ ∃ b, v1.ownBlock = some b ∧ W.heap.size ≤ b) : EachKp (GOut ob) (OOut ob) W (W2.setCell ⟨ob, 0, none⟩ v1) := by
  intro g
  have hg := grownBy_setCell' W2 ob v1
  have hb2 : Boxed W2 ob 27 v := (hK.2 ob hb.lt (fun e => hobv ob e.symm rfl)).trans hb
  have hb3 := hb2.set v1
  refine ⟨⟨v1, hb3, fun k hk => Nat.lt_of_lt_of_le (hv1 k hk) hg.size⟩, Nat.le_trans hK.1 hg.size, fun k cs t f hk ho => ?_, fun k hk => ?_⟩
  · have hkl := (Array.getElem?_eq_some_iff.1 hk).1
    have h1 := hK.2 k hkl (fun e => ho (.inr ⟨v, hb, e.symm⟩))
    exact ((hg.block k (Nat.lt_of_lt_of_le hkl hK.1) (fun e => ho (.inl (by cases e; rfl)))).trans h1).trans hk
  · rcases hk with rfl | ⟨v', hb', hk⟩
    · exact .inl (.inl rfl)
    · rw [boxed_same hb3 hb' rfl] at hk
      rcases hat with h | ⟨b, h1, h2⟩
      · exact .inl (.inr ⟨v, hb, by rw [← h]; exact hk⟩)
      · rw [h1] at hk; cases hk; exact .inr h2
theorem cut_from {B ob : Nat} {W W2 : World} {v v1 : Value} (hty : ∀ k, v.ownBlock = some k → ∃ cells, W.heap[k]? = some (.cells cells 34 (0, 0))) (hK : KeptOut v.ownBlock W W2) : KeepsFrom B W (W2.setCell ⟨ob, 0, none⟩ v1) :=
  (KeepsFrom.trans (Y := W2) ⟨hK.1, fun k o _ hk ho => (hK.2 k (Array.getElem?_eq_some_iff.1 hk).1 (fun e => by
    obtain ⟨cells, hc⟩ := hty k e.symm
    rw [hc] at hk; cases hk; simp [Obj.isCells] at ho)).trans hk⟩ ((KeepsOthers.setCell _ _ _).from _))

set_option maxRecDepth 100000 in
set_option maxHeartbeats 8000000 in
theorem Cut_in (n : Nat) (hn : 6 ≤ n) (A : Option Addr) (cap : Nat) (xs : List S34) (i j : Int) (hreach : xs.length * 32 ≤ 140737488351232) (w : World) (hC : Kd.C k34 w A xs.length xs) (hcap : xs.length ≤ cap) (hsets : ∀ b ∈ xs, b.f1.length < 2932031007402) :
    CallsIn Fence.wide n Try.prog 18 #[.slice A xs.length cap, .int .i64 i, .int .i64 j] w fun e W' => ∃ v0_ : Value, e = .returned v0_ ∧ Kd.S k34 34 W' w.heap.size (fun _ => True) v0_ (if mn (mx j 0) (atP xs xs.length) ≤ mx i 0 then [] else cutP xs (mx i 0) (mn (mx j 0) (atP xs xs.length)) (List.finRange xs.length)) ∧ Below w.heap.size w W' := by
  have h1 : 1 ≤ n := by omega
  have hro : Fence.wide.round = none := rfl
  obtain ⟨As, Cs, hEC, hin⟩ := eachCells_of hC
  refine callsIn_of_wp_marks Try.func18 rfl trivial ?_ hro
  simp only [Try.ntmps18, List.size_toArray, List.length_cons, List.length_nil, Nat.reduceAdd, Nat.reduceSub, Array.replicate_succ, Array.replicate_zero, List.push_toArray, List.append_toArray, List.nil_append, List.cons_append]
  have b0 := ((Boxed.new w 3 (.int .i64 i)).alloc (.cells #[.int .i64 j] 3)).alloc (.cells #[.slice none 0 0] 27)
  have b1 := (Boxed.new (w.alloc (.cells #[.int .i64 i] 3)) 3 (.int .i64 j)).alloc (.cells #[.slice none 0 0] 27)
  have b2 := (Boxed.new ((w.alloc (.cells #[.int .i64 i] 3)).alloc (.cells #[.int .i64 j] 3)) 27 (.slice none 0 0))
  simp only [World.size_alloc] at b1 b2
  gi_wp2
  rename_i K0 hK0
  have hsz : (((w.alloc (.cells #[.int .i64 i] 3)).alloc (.cells #[.int .i64 j] 3)).alloc (.cells #[.slice none 0 0] 27)).heap.size = w.heap.size + 3 := by simp
  have hB0 : Below w.heap.size w (((w.alloc (.cells #[.int .i64 i] 3)).alloc (.cells #[.int .i64 j] 3)).alloc (.cells #[.slice none 0 0] 27)) := (((Below.refl _ w).alloc (Nat.le_refl _) _).alloc (by simp) _).alloc (by simp; omega) _
  obtain ⟨W0, hW0⟩ : ∃ W0, ((w.alloc (.cells #[.int .i64 i] 3)).alloc (.cells #[.int .i64 j] 3)).alloc (.cells #[.slice none 0 0] 27) = W0 := ⟨_, rfl⟩
  rw [hW0] at b0 b1 b2 hB0 hsz ⊢
  clear hW0
  have hrest : ∀ W1, Boxed W1 w.heap.size 3 (.int .i64 (mx i 0)) → Boxed W1 (w.heap.size + 1) 3 (.int .i64 (mn (mx j 0) (atP xs xs.length))) → Boxed W1 (w.heap.size + 1 + 1) 27 (.slice none 0 0) → Below w.heap.size w W1 →
      K0 { tmps := #[.slice A xs.length cap, .int .i64 i, .int .i64 j, undef, .pointer (some ⟨w.heap.size, 0, none⟩), .pointer (some ⟨w.heap.size + 1, 0, none⟩), .slice none 0 0, .pointer (some ⟨w.heap.size + 1 + 1, 0, none⟩), undef, undef, .int .i64 i, .int .i64 (mx i 0), .int .i64 j, .int .i64 (mx j 0), .slice A xs.length cap, .int .i64 (atP xs xs.length), .int .i64 (mn (mx j 0) (atP xs xs.length)), undef, undef, undef, undef, undef, undef, undef, undef, undef, undef, undef, undef, undef, undef, undef, undef, undef, undef, undef, undef, undef, undef], defers := [] } W1 := by
    intro W1 c0 c1 c2 hB1
    refine hK0 _ _ ?_
    obtain ⟨I', hI'⟩ : ∃ I', mx i 0 = I' := ⟨_, rfl⟩
    obtain ⟨J', hJ'⟩ : ∃ J', mn (mx j 0) (atP xs xs.length) = J' := ⟨_, rfl⟩
    rw [hI'] at c0 ⊢
    rw [hJ'] at c1 ⊢
    gi_wp2_with ((refine ⟨trivial, ?_⟩; gi_at_call 25; refine (each_in Fence.wide (n - 1) trivial hro _ _ _ _).mono ?_; rintro e w' ⟨rfl, rfl⟩))
    have c3 := Boxed.new W1 27 (.slice A xs.length cap)
    have hsz1 := hB1.size
    have hob := c2.lt
    refine wpIn_rangeFunc_ownH hro h1 (gf := 30) (lb := #[.pointer (some ⟨W1.heap.size, 0, none⟩)]) rfl trivial (enters_of Try.func30 (by kernel_rfl) rfl)
      (each_stops Fence.wide (n - 1) trivial hro (by omega) W1.heap.size A cap xs As Cs _ _ (ownOut (w.heap.size + 1 + 1)) hreach (W1.alloc (.cells #[.slice A xs.length cap] 27)) (fun W hW => ?hG) c3 ?hOs
        ?hOa ((hEC.below hB1).below ((Below.refl _ W1).alloc (Nat.le_refl _) _))) (fun h k => EachKp.trans h k) (fun W l o o' _ hl hc _ => EachKp.put (ownOut (w.heap.size + 1 + 1)) W l o o' hl hc) (Below.refl _ _) (fun _ => rfl)
      (fun pre W => (W1.heap.size < W.heap.size ∧ Boxed W w.heap.size 3 (.int .i64 I') ∧ Boxed W (w.heap.size + 1) 3 (.int .i64 J') ∧ ∃ v, Boxed W (w.heap.size + 1 + 1) 27 v ∧ (J' ≤ I' → pre = [] ∧ v = .slice none 0 0) ∧ Kd.S k34 34 W w.heap.size (fun _ => True) v (cutP xs I' J' pre)) ∧ Below w.heap.size w W)
      (fun c pre W => (c = .exit 0 ∧ J' ≤ I' ∧ Boxed W (w.heap.size + 1 + 1) 27 (.slice none 0 0)) ∧ Below w.heap.size w W)
      ?hI ?hIx
      ⟨⟨by simp, c0.alloc _, c1.alloc _, .slice none 0 0, c2.alloc _, fun _ => ⟨rfl, rfl⟩, Kd.S_nil _ _ _ _ _⟩, hB1.alloc hsz1 _⟩
      (fun x a' W => ∃ Bx, W1.heap.size < Bx ∧ W.heap[Bx]? = some (.cells #[.int .i64 (xs[x.1]'x.2).f0, .slice (As x.1) (xs[x.1]'x.2).f1.length (Cs x.1)] 34 (0, 0)) ∧ a' = { tmps := #[.slice A xs.length cap, .int .i64 i, .int .i64 j, undef, .pointer (some ⟨w.heap.size, 0, none⟩), .pointer (some ⟨w.heap.size + 1, 0, none⟩), .slice none 0 0, .pointer (some ⟨w.heap.size + 1 + 1, 0, none⟩), .int .i64 (atP xs x.1), .pointer (some ⟨Bx, 0, none⟩), .int .i64 i, .int .i64 I', .int .i64 j, .int .i64 (mx j 0), .slice A xs.length cap, .int .i64 (atP xs xs.length), .int .i64 J', .slice A xs.length cap, .func (.func 30) #[] #[.pointer (some ⟨W1.heap.size, 0, none⟩)], .int .i64 (atP xs x.1), .agg #[.int .i64 (xs[x.1]'x.2).f0, .slice (As x.1) (xs[x.1]'x.2).f1.length (Cs x.1)], undef, undef, undef, undef, undef, undef, undef, undef, undef, undef, undef, undef, undef, undef, undef, undef, undef, undef], defers := [] })
      ?hAx ?assign ?body ?done ?stop
    case hG =>
      have hWb := hW.block (w.heap.size + 1 + 1) (by simp; omega)
      have hb : Boxed W (w.heap.size + 1 + 1) 27 (.slice none 0 0) := hWb.trans (c2.alloc _)
      refine ⟨⟨_, hb, fun k hk => by simp [Value.ownBlock] at hk⟩, fun k _ h => ?_⟩
      rcases h with rfl | ⟨v', hb', hk⟩
      · exact .inl rfl
      · rw [boxed_same hb hb' rfl] at hk; simp [Value.ownBlock] at hk
    case hOs =>
      rintro (h | ⟨v', hb', hk⟩)
      · omega
      · rw [boxed_same (c2.alloc _) hb' rfl] at hk; simp [Value.ownBlock] at hk
    case hOa =>
      intro ad e hp
      rintro (h | ⟨v', hb', hk⟩)
      · obtain ⟨ad2, e2, x0, _⟩ := hEC 0 hp
        rw [e] at e2; cases e2
        have := World.block_lt_of_cell? w _ x0
        rw [add_block] at this; omega
      · rw [boxed_same (c2.alloc _) hb' rfl] at hk; simp [Value.ownBlock] at hk
    case hI =>
      refine OwnFrom.and (fun s X Y row hs hg hr => ?_) (ownFrom_below (Nat.le_refl _) (by simp; omega))
      obtain ⟨h1, h2, h3, v, h4, h6, h5⟩ := hs
      exact ⟨Nat.lt_of_lt_of_le h1 hg.size, boxed_own _ 3 (fun (_ : Unit) => Value.int .i64 I') () X Y row h2 hg (fun r e => (hr r e).2), boxed_own _ 3 (fun (_ : Unit) => Value.int .i64 J') () X Y row h3 hg (fun r e => (hr r e).2), v, boxed_own _ 27 (fun (_ : Unit) => v) () X Y row h4 hg (fun r e => (hr r e).2), h6, S_turn h5 hg (fun r e => (hr r e).2)⟩
    case hIx =>
      intro c
      refine OwnFrom.and (fun s X Y row hs hg hr => ?_) (ownFrom_below (Nat.le_refl _) (by simp; omega))
      obtain ⟨h1, h2, h3⟩ := hs
      exact ⟨h1, h2, boxed_own _ 27 (fun (_ : Unit) => Value.slice none 0 0) () X Y row h3 hg (fun r e => (hr r e).2)⟩
    case hAx =>
      rintro x a' _ X Y row hs hg hr
      obtain ⟨Bx, h1, h2, h3⟩ := hs
      refine ⟨Bx, h1, (hg.block Bx (Array.getElem?_eq_some_iff.1 h2).1 (fun e => ?_)).trans h2, h3⟩
      obtain ⟨_, o, ho, hc⟩ := hr Bx e.symm
      rw [h2] at ho; cases ho; simp [Obj.isCells] at hc
    case assign =>
      rintro l pre x W K ⟨⟨hp, d0, d1, v, d2, hq, hS⟩, hBW⟩ hK
      simp only [encB]
      gi_wp2
      exact hK _ _ ((KeepsOthers.alloc _ _).from _) (EachKp.grow (ownOut _) (World.grownBy_alloc _ _ none)) ⟨⟨by simp; omega, d0.alloc _, d1.alloc _, v, d2.alloc _, hq, Kd.S_alloc hS _⟩, hBW.alloc hBW.size _⟩ ⟨W.heap.size, hp, World.alloc_heap_new W _, rfl⟩
    case body =>
      rintro l pre x a' W hl ⟨r, hr⟩ ⟨⟨hp, d0, d1, v, d2, hq, hS⟩, hBW⟩ ⟨Bx, hBx, bX, rfl⟩ hlt
      have h1' : 1 ≤ n - 1 - 1 := by omega
      have e0 := d0.cell
      have e1 := d1.cell
      have e2 := d2.cell
      have f2 := d2.frozen
      have cX : W.cell? ⟨Bx, 0, none⟩ = some (.int .i64 (xs[x.1]'x.2).f0) := by simp [World.cell?, bX]
      have cY : W.cell? ⟨Bx, 1, none⟩ = some (.slice (As x.1) (xs[x.1]'x.2).f1.length (Cs x.1)) := by simp [World.cell?, bX]
      have hd : xs.getD x.1 z34 = xs[x.1]'x.2 := by simp
      have hset := hin x.1 x.2
      rw [hd] at hset
      by_cases hij : J' ≤ I'
      · have hij0 : decide (J' ≤ I') = true := decide_eq_true hij
        gi_wp2
        all_goals exact ⟨KeepsFrom.refl _ _, ⟨rfl, hij, by rw [← (hq hij).2]; exact d2⟩, hBW⟩
      · have hij0 : decide (J' ≤ I') = false := decide_eq_false hij
        obtain ⟨Ao, co, rfl⟩ := Kd.S_slice hS
        have hlen : (cutP xs I' J' pre).length < 4398046511104 := by have := cutP_length xs I' J' pre; omega
        have hadd := add_eq 2932031007402 (cutP xs I' J' pre) (wrap64 (mn (wrap64 (atP xs x.1 + (xs[x.1]'x.2).f0)) J' - mx (atP xs x.1) I')) (xs[x.1]'x.2).f1 hlen (hsets _ (List.getElem_mem x.2)) (fun b hb => by
          have := cutP_sets xs (fun s => s.length < 2932031007402) hsets I' J' pre b hb
          exact ⟨this, this⟩)
        have hcall := blocks_add.keeps 2932031007402 Ao co (cutP xs I' J' pre) _ (As x.1) (Cs x.1) (xs[x.1]'x.2).f1 _ w W W (KeptOut.refl _ _) hS hBW hset.2 hset.1 hadd
        gi_wp2_with (refine ⟨trivial, ?_⟩; gi_at_call 24; refine (CallsIn.inRound l (callsIn_wide.2 hcall)).mono ?_; rintro e W2 ⟨v1, rfl, hv1, hb2, hK2, hat2⟩; obtain ⟨A1, c1_, rfl⟩ := Kd.S_slice hv1; have d2' : Boxed W2 (w.heap.size + 1 + 1) 27 (.slice Ao (cutP xs I' J' pre).length co) := (hK2.2 _ d2.lt (fun e_ => by obtain ⟨cs_, hc_⟩ := Kd.S_typed hS _ e_.symm; rw [show W.heap[_]? = _ from d2] at hc_; cases hc_)).trans d2; have e2' := d2'.cell; have f2' := d2'.frozen)
        all_goals
          have hne : ∀ {k : Nat} {t : Nat} {u : Value}, Boxed W k t u → t ≠ 34 → ∀ m, (Value.slice Ao (cutP xs I' J' pre).length co).ownBlock = some m → m ≠ k := fun {k t u} hb ht m hm e_ => by
            obtain ⟨cs_, hc_⟩ := Kd.S_typed hS _ hm
            subst e_
            rw [show W.heap[m]? = _ from hb] at hc_; cases hc_; exact ht rfl
          have d0' : Boxed W2 w.heap.size 3 (.int .i64 I') := (hK2.2 _ d0.lt (fun e_ => hne d0 (by decide) _ e_.symm rfl)).trans d0
          have d1' : Boxed W2 (w.heap.size + 1) 3 (.int .i64 J') := (hK2.2 _ d1.lt (fun e_ => hne d1 (by decide) _ e_.symm rfl)).trans d1
          refine ⟨cut_from (Kd.S_typed hS) hK2, cut_keeps d2 (Kd.S_lt hS) (Kd.S_lt hv1) (hne d2 (by decide)) hK2 hat2, ⟨Nat.lt_of_lt_of_le hp (Nat.le_trans hK2.1 (grownBy_setCell' W2 (w.heap.size + 1 + 1) _).size), d0'.other (by omega) _, d1'.other (by omega) _, _, d2'.set _, fun h => by omega, ?_⟩, hb2.setCell (p := ⟨w.heap.size + 1 + 1, 0, none⟩) (by simp; omega) _⟩
          rw [cutP_snoc]
          exact Kd.S_set hv1 d2' (by decide) 0 _
    case done =>
      rintro D ys W hD rfl ⟨⟨hp, d0, d1, v, d2, hq, hS⟩, hBW⟩ hK
      have e2 := d2.cell
      have hS' := S_turn hS (grownBy_putObj' W D (.deferred none)) (fun r e => by cases e; exact ⟨_, hK, rfl⟩)
      have hBD := hBW.trans (belowK_b (w := w) (o' := .deferred none) (Nat.le_refl _) W D _ (by simp at hD; omega) hK rfl rfl)
      gi_wp2
      all_goals refine ⟨by simp, .inl ⟨_, _, rfl, run_takeDeferred hK, ?_⟩⟩
      · rename_i hle
        first | exact ⟨_, results_tmp rfl _ _ _, .slice none 0 0, by rfl, Kd.S_nil _ _ _ _ _, hBD⟩ | skip
      · exact ⟨_, results_tmp rfl _ _ _, v, by rfl, by subst hI' hJ'; exact hS', hBD⟩
    case stop =>
      rintro D c pre W hD _ ⟨⟨rfl, hij, d2⟩, hBW⟩ hK
      have e2 := d2.cell
      have hBD := hBW.trans (belowK_b (w := w) (o' := .deferred none) (Nat.le_refl _) W D _ (by simp at hD; omega) hK rfl rfl)
      gi_wp2
      all_goals refine ⟨by simp, .inl ⟨_, _, rfl, run_takeDeferred hK, ?_⟩⟩
      all_goals exact ⟨_, results_tmp rfl _ _ _, _, rfl, Kd.S_nil _ _ _ _ _, hBD⟩
  refine wpIn_wide.2 ?_
  refine wp_mono (Q := fun e a w => match e with | .normal => K0 a w | _ => False) ?_ (fun e a w h => by cases e <;> first | exact h | exact h.elim)
  have b0' : Boxed W0.drew w.heap.size 3 (.int .i64 i) := b0
  have b1' : Boxed W0.drew (w.heap.size + 1) 3 (.int .i64 j) := b1
  have b2' : Boxed W0.drew (w.heap.size + 1 + 1) 27 (.slice none 0 0) := b2
  have hB' : Below w.heap.size w W0.drew := below_drew hB0
  refine start_ (n := 9) (S := fun w' => w'.cell? ⟨w.heap.size + 1, 0, none⟩ = some (.int .i64 j)) (ds := [8]) #[false, false, false, false, false, false, false, false, false] (by kernel_rfl) rfl rfl b1'.cell (fun hHeld => ?_)
  generalize W0.drew = W1 at b0' b1' b2' hB' hHeld ⊢
  refine pure_ (i := 4) (N := some 14) (v := ?_) (a' := ?_) #[false, false, false, false, true, false, false, false, false] rfl rfl (any_of rfl (by kernel_rfl)) (fun _ _ _ h => h) (Or.inl ⟨by rfl, ?_⟩) ?_ ?_
  rotate_left
  · intro w'
    go_simp
    with_reducible rfl
  rotate_left
  · simp only [Act.put, List.setIfInBounds_toArray, List.set_cons_zero, List.set_cons_succ, i64_w, i32_w]
    rfl
  refine take_ (i := 2) (N := some 12) (v := ?_) (a' := ?_) #[false, false, true, false, true, false, false, false, false] rfl rfl (take_of rfl (by kernel_rfl)) (fun _ _ _ h => h) (Or.inl ⟨by rfl, ?_⟩) hHeld ?_ ?_
  rotate_left
  · rintro w' s0
    go_simp
    with_reducible rfl
  rotate_left
  · simp only [Act.put, List.setIfInBounds_toArray, List.set_cons_zero, List.set_cons_succ, i64_w, i32_w]
    rfl
  refine pure_ (i := 3) (N := some 13) (v := ?_) (a' := ?_) #[false, false, true, true, true, false, false, false, false] rfl rfl (any_of rfl (by kernel_rfl)) (fun _ _ _ h => h) (Or.inl ⟨by rfl, ?_⟩) ?_ ?_
  rotate_left
  · intro w'
    go_simp
    with_reducible rfl
  rotate_left
  · simp only [Act.put, List.setIfInBounds_toArray, List.set_cons_zero, List.set_cons_succ, i64_w, i32_w]
    rfl
  refine two_ (i := 0) (j := 5) (Ni := some 10) (Nj := some 15) #[true, false, true, true, true, false, false, false, false] #[false, false, true, true, true, true, false, false, false] rfl rfl rfl rfl (two_of rfl (by kernel_rfl)) (by decide) (by decide) (fun K hK => ?_) (fun K hK => ?_)
  · have cI := b0'.cell
    refine value_ (w1 := W1) (v := .int .i64 i) (by rfl) rfl ?_ ?_
    · go_simp
      done
    refine hK.out _ _ hHeld (fun hHeld => ?_)
    clear hK K
    refine norm_ (a' := ?_) ?_ ?_
    rotate_left
    · show Act.put _ (some 10) _ = _
      simp only [Act.put, List.setIfInBounds_toArray, List.set_cons_zero, List.set_cons_succ, i64_w, i32_w]
      rfl
    refine pure_ (i := 1) (N := some 11) (v := ?_) (a' := ?_) #[true, true, true, true, true, false, false, false, false] rfl rfl (any_of rfl (by kernel_rfl)) (fun _ _ _ h => h) (Or.inl ⟨by rfl, ?_⟩) ?_ ?_
    rotate_left
    · intro w'
      go_simp
      with_reducible rfl
    rotate_left
    · simp only [Act.put, List.setIfInBounds_toArray, List.set_cons_zero, List.set_cons_succ, i64_w, i32_w]
      rfl
    refine one_ (i := 5) (N := some 15) #[true, true, true, true, true, true, false, false, false] rfl rfl (one_of rfl (by kernel_rfl)) (by decide) (fun K hK => ?_)
    refine goes_ Try.func13 (by kernel_rfl) rfl #[.slice A xs.length cap] (by rfl) rfl rfl (by (try simp only [List.map_toArray, List.map_cons, List.map_nil]); first | done | rfl) ?_
    refine (blocks_Len.calls A cap xs (atP xs xs.length) W1 (Kd.C_below hC hB') hcap (by unfold blocks_Len.f; rw [if_pos hreach])).mono ?_
    rintro e W2 ⟨rfl, hb⟩
    refine ⟨_, rfl, ?_⟩
    have b0' : Boxed W2 w.heap.size 3 (.int .i64 i) := (hb.block _ b0'.lt).trans b0'
    have b1' : Boxed W2 (w.heap.size + 1) 3 (.int .i64 j) := (hb.block _ b1'.lt).trans b1'
    have b2' : Boxed W2 (w.heap.size + 1 + 1) 27 (.slice none 0 0) := (hb.block _ b2'.lt).trans b2'
    have hB' : Below w.heap.size w W2 := hB'.trans (hb.mono hB'.size)
    refine hK.out _ _ b1'.cell (fun hHeld => ?_)
    clear hK K
    refine norm_ (a' := ?_) ?_ ?_
    rotate_left
    · show Act.put _ (some 15) _ = _
      simp only [Act.put, List.setIfInBounds_toArray, List.set_cons_zero, List.set_cons_succ, i64_w, i32_w]
      rfl
    refine pure_ (i := 6) (N := some 16) (v := ?_) (a' := ?_) #[true, true, true, true, true, true, true, false, false] rfl rfl (any_of rfl (by kernel_rfl)) (fun _ _ _ h => h) (Or.inl ⟨by rfl, ?_⟩) ?_ ?_
    rotate_left
    · intro w'
      go_simp
      with_reducible rfl
    rotate_left
    · simp only [Act.put, List.setIfInBounds_toArray, List.set_cons_zero, List.set_cons_succ, i64_w, i32_w]
      rfl
    refine one_ (i := 7) (N := none) #[true, true, true, true, true, true, true, true, false] rfl rfl (one_of rfl (by kernel_rfl)) (by decide) (fun K hK => ?_)
    have c0 := b0'.cell
    have f0 := b0'.frozen
    refine skip_ (w1 := W2.setCell ⟨w.heap.size, 0, none⟩ (.int .i64 (mx i 0))) (by rfl) rfl ?_ ?_
    · go_simp
      rfl
    have d0 := b0'.set (.int .i64 (mx i 0))
    have d1 := b1'.other (B' := w.heap.size) (by omega) (.int .i64 (mx i 0))
    have d2 := b2'.other (B' := w.heap.size) (by omega) (.int .i64 (mx i 0))
    refine hK.out _ _ d1.cell (fun hHeld => ?_)
    clear hK K
    refine last_ (i := 8) (N := none) #[true, true, true, true, true, true, true, true, true] rfl rfl (one_of rfl (by kernel_rfl)) (by decide) (fun K hK => ?_)
    have c1 := d1.cell
    have f1 := d1.frozen
    refine skip_ (w1 := (W2.setCell ⟨w.heap.size, 0, none⟩ (.int .i64 (mx i 0))).setCell ⟨w.heap.size + 1, 0, none⟩ (.int .i64 (mn (mx j 0) (atP xs xs.length)))) (by rfl) rfl ?_ ?_
    · go_simp
      rfl
    refine hK.out _ _ ?_
    clear hK K
    refine done_ (done_of rfl (by kernel_rfl)) ?_
    exact hrest _ (d0.other (by omega) _) (d1.set _) (d2.other (by omega) _) ((hB'.setCell (p := ⟨w.heap.size, 0, none⟩) (Nat.le_refl _) _).setCell (p := ⟨w.heap.size + 1, 0, none⟩) (by simp) _)
  · refine goes_ Try.func13 (by kernel_rfl) rfl #[.slice A xs.length cap] (by rfl) rfl rfl (by (try simp only [List.map_toArray, List.map_cons, List.map_nil]); first | done | rfl) ?_
    refine (blocks_Len.calls A cap xs (atP xs xs.length) W1 (Kd.C_below hC hB') hcap (by unfold blocks_Len.f; rw [if_pos hreach])).mono ?_
    rintro e W2 ⟨rfl, hb⟩
    refine ⟨_, rfl, ?_⟩
    have b0' : Boxed W2 w.heap.size 3 (.int .i64 i) := (hb.block _ b0'.lt).trans b0'
    have b1' : Boxed W2 (w.heap.size + 1) 3 (.int .i64 j) := (hb.block _ b1'.lt).trans b1'
    have b2' : Boxed W2 (w.heap.size + 1 + 1) 27 (.slice none 0 0) := (hb.block _ b2'.lt).trans b2'
    have hB' : Below w.heap.size w W2 := hB'.trans (hb.mono hB'.size)
    refine hK.out _ _ b1'.cell (fun hHeld => ?_)
    clear hK K
    refine norm_ (a' := ?_) ?_ ?_
    rotate_left
    · show Act.put _ (some 15) _ = _
      simp only [Act.put, List.setIfInBounds_toArray, List.set_cons_zero, List.set_cons_succ, i64_w, i32_w]
      rfl
    refine pure_ (i := 6) (N := some 16) (v := ?_) (a' := ?_) #[false, false, true, true, true, true, true, false, false] rfl rfl (any_of rfl (by kernel_rfl)) (fun _ _ _ h => h) (Or.inl ⟨by rfl, ?_⟩) ?_ ?_
    rotate_left
    · intro w'
      go_simp
      with_reducible rfl
    rotate_left
    · simp only [Act.put, List.setIfInBounds_toArray, List.set_cons_zero, List.set_cons_succ, i64_w, i32_w]
      rfl
    refine one_ (i := 0) (N := some 10) #[true, false, true, true, true, true, true, false, false] rfl rfl (one_of rfl (by kernel_rfl)) (by decide) (fun K hK => ?_)
    have cI := b0'.cell
    refine value_ (w1 := W2) (v := .int .i64 i) (by rfl) rfl ?_ ?_
    · go_simp
      done
    refine hK.out _ _ hHeld (fun hHeld => ?_)
    clear hK K
    refine norm_ (a' := ?_) ?_ ?_
    rotate_left
    · show Act.put _ (some 10) _ = _
      simp only [Act.put, List.setIfInBounds_toArray, List.set_cons_zero, List.set_cons_succ, i64_w, i32_w]
      rfl
    refine pure_ (i := 1) (N := some 11) (v := ?_) (a' := ?_) #[true, true, true, true, true, true, true, false, false] rfl rfl (any_of rfl (by kernel_rfl)) (fun _ _ _ h => h) (Or.inl ⟨by rfl, ?_⟩) ?_ ?_
    rotate_left
    · intro w'
      go_simp
      with_reducible rfl
    rotate_left
    · simp only [Act.put, List.setIfInBounds_toArray, List.set_cons_zero, List.set_cons_succ, i64_w, i32_w]
      rfl
    refine one_ (i := 7) (N := none) #[true, true, true, true, true, true, true, true, false] rfl rfl (one_of rfl (by kernel_rfl)) (by decide) (fun K hK => ?_)
    have c0 := b0'.cell
    have f0 := b0'.frozen
    refine skip_ (w1 := W2.setCell ⟨w.heap.size, 0, none⟩ (.int .i64 (mx i 0))) (by rfl) rfl ?_ ?_
    · go_simp
      rfl
    have d0 := b0'.set (.int .i64 (mx i 0))
    have d1 := b1'.other (B' := w.heap.size) (by omega) (.int .i64 (mx i 0))
    have d2 := b2'.other (B' := w.heap.size) (by omega) (.int .i64 (mx i 0))
    refine hK.out _ _ d1.cell (fun hHeld => ?_)
    clear hK K
    refine last_ (i := 8) (N := none) #[true, true, true, true, true, true, true, true, true] rfl rfl (one_of rfl (by kernel_rfl)) (by decide) (fun K hK => ?_)
    have c1 := d1.cell
    have f1 := d1.frozen
    refine skip_ (w1 := (W2.setCell ⟨w.heap.size, 0, none⟩ (.int .i64 (mx i 0))).setCell ⟨w.heap.size + 1, 0, none⟩ (.int .i64 (mn (mx j 0) (atP xs xs.length)))) (by rfl) rfl ?_ ?_
    · go_simp
      rfl
    refine hK.out _ _ ?_
    clear hK K
    refine done_ (done_of rfl (by kernel_rfl)) ?_
    exact hrest _ (d0.other (by omega) _) (d1.set _) (d2.other (by omega) _) ((hB'.setCell (p := ⟨w.heap.size, 0, none⟩) (Nat.le_refl _) _).setCell (p := ⟨w.heap.size + 1, 0, none⟩) (by simp) _)

def blocks_Cut.f (l0 : List (S34)) (a1 : Int) (a2 : Int) : Option ((List (S34))) :=
  if l0.length * 32 ≤ 140737488351232 ∧ ∀ b ∈ l0, b.f1.length < 2932031007402 then
    some (if mn (mx a2 0) (atP l0 l0.length) ≤ mx a1 0 then [] else cutP l0 (mx a1 0) (mn (mx a2 0) (atP l0 l0.length)) (List.finRange l0.length)) else none
theorem blocks_Cut.calls (A0 : Option Addr) (c0 : Nat) (l0 : List (S34)) (a1 : Int) (a2 : Int) (r : List (S34)) (w : World) (hr0 : Kd.C k34 w A0 l0.length l0) (hc0 : l0.length ≤ c0) (h : blocks_Cut.f l0 a1 a2 = some r) :
    Calls Try.prog 18 #[.slice A0 l0.length c0, .int .i64 a1, .int .i64 a2] w fun e w' => ∃ v0_ : Value, e = .returned (v0_) ∧ Kd.S k34 34 w' w.heap.size (fun _ => True) v0_ r ∧ Below w.heap.size w w' := by
  unfold blocks_Cut.f at h
  split at h
  · rename_i hc
    cases h
    exact callsIn_wide.1 (Cut_in 6 (by omega) A0 c0 l0 a1 a2 hc.1 w hr0 hc0 hc.2)
  · cases h
end Go.Proofs.Ytpnoeggnniagfaa.P
