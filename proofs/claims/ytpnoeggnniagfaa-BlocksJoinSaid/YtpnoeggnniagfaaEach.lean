-- by hand: blocks.each, its closure, and the three functions that go over it (blocks.Len, blocks.At, blocks.Cut)
import Derived.RangeFuncNested
import Derived.RangeFuncBound
import Derived.RangeFuncCalls
import Derived.RangeFuncLeaves
import Derived.Shelf.Abstract
import Derived.Shelf.RegionOpen
import Derived.WalkKit
import Derived.OwnWalkIn
import Derived.TacticsInMore
import Derived.LoopNIn
import Derived.LoopIn
import Derived.Test.YtpnoeggnniagfaaPx2
namespace Go.Proofs.Ytpnoeggnniagfaa.P
open Go.RowKit Go.Shelf Go.Proofs.YtpnoeggnniagfaaW.PrintWords Go.Proofs.YtpnoeggnniagfaaW.PrintLast Go.Proofs.YtpnoeggnniagfaaW.PrintMore
set_option linter.unusedVariables false
attribute [local go_sem] Oper.semAt_some

/-- What the loop's body may write (O), and what holds of its own blocks (G). -/
structure EachOwn (G : World → Prop) (O : World → Nat → Prop) : Prop where
  lt : ∀ {W k}, G W → O W k → k < W.heap.size
  grow : ∀ {A B}, G A → A.grownBy B none → G B ∧ ∀ k, O B k → O A k
  put : ∀ {W l o} (o' : Obj), G W → W.heap[l]? = some o → o.isCells = false → G (W.putObj l o') ∧ ∀ k, O (W.putObj l o') k → O W k
/-- What a round that goes on keeps: every block of cells but the body's own. -/
def EachKp (G : World → Prop) (O : World → Nat → Prop) (W W' : World) : Prop :=
  G W → G W' ∧ W.heap.size ≤ W'.heap.size ∧ (∀ k cs t f, W.heap[k]? = some (.cells cs t f) → ¬ O W k → W'.heap[k]? = some (.cells cs t f)) ∧ ∀ k, O W' k → O W k ∨ W.heap.size ≤ k
theorem EachKp.trans {G : World → Prop} {O : World → Nat → Prop} {A B C : World} (h : EachKp G O A B) (k : EachKp G O B C) : EachKp G O A C := by
  intro g
  obtain ⟨gb, sb, kb, ob⟩ := h g
  obtain ⟨gc, sc, kc, oc⟩ := k gb
  refine ⟨gc, Nat.le_trans sb sc, fun i cs t f hc ho => ?_, fun i hi => ?_⟩
  · have hb := kb i cs t f hc ho
    refine kc i cs t f hb (fun hbo => ?_)
    rcases ob i hbo with h1 | h1
    · exact ho h1
    · have := (Array.getElem?_eq_some_iff.1 hc).1; omega
  · rcases oc i hi with h1 | h1
    · exact ob i h1
    · right; omega
theorem EachKp.put {G : World → Prop} {O : World → Nat → Prop} (hE : EachOwn G O) (W : World) (l : Nat) (o o' : Obj) (hl : W.heap[l]? = some o) (hc : o.isCells = false) : EachKp G O W (W.putObj l o') := by
  intro g
  obtain ⟨g2, o2⟩ := hE.put o' g hl hc
  have hg := grownBy_putObj' W l o'
  refine ⟨g2, hg.size, fun k cs t f hk ho => ?_, fun k hk => .inl (o2 k hk)⟩
  have hne : k ≠ l := by
    rintro rfl
    rw [hl] at hk
    cases hk
    simp [Obj.isCells] at hc
  exact (hg.block k (Array.getElem?_eq_some_iff.1 hk).1 (fun e => hne (by cases e; rfl))).trans hk
theorem EachKp.grow {G : World → Prop} {O : World → Nat → Prop} (hE : EachOwn G O) {A B : World} (hg : A.grownBy B none) : EachKp G O A B := by
  intro g
  obtain ⟨g2, o2⟩ := hE.grow g hg
  exact ⟨g2, hg.size, fun k cs t f hk ho => (hg.block k (Array.getElem?_eq_some_iff.1 hk).1 (by simp)).trans hk, fun k hk => .inl (o2 k hk)⟩
theorem cell_of_heap {W W' : World} {a : Addr} (h : W'.heap[a.block]? = W.heap[a.block]?) : W'.cell? a = W.cell? a := by
  simp only [World.cell?, h]
theorem cells_of_cell {W : World} {a : Addr} {v : Value} (h : W.cell? a = some v) : ∃ cs t f, W.heap[a.block]? = some (.cells cs t f) := by
  unfold World.cell? at h
  split at h <;> rename_i hh
  · exact ⟨_, _, _, hh⟩
  all_goals cases h

/-- Where block k of a row of blocks begins (as the program counts). -/
def atP (xs : List S34) (k : Nat) : Int := (xs.take k).foldl (fun s b => wrap64 (s + b.f0)) 0
theorem atP_succ (xs : List S34) (k : Nat) (hk : k < xs.length) : atP xs (k + 1) = wrap64 (atP xs k + (xs.getD k z34).f0) := by
  unfold atP
  rw [List.take_add_one, List.foldl_append, List.getElem?_eq_getElem hk, List.getD_eq_getElem?_getD, List.getElem?_eq_getElem hk]
  rfl
def encB (xs : List S34) (As : Nat → Option Addr) (Cs : Nat → Nat) (x : Fin xs.length) : Array Value :=
  #[.int .i64 (atP xs x.1), .agg #[.int .i64 (xs[x.1]'x.2).f0, .slice (As x.1) (xs[x.1]'x.2).f1.length (Cs x.1)]]

set_option maxRecDepth 100000 in
set_option maxHeartbeats 8000000 in
theorem each1_in (F : Fence) (n : Nat) (hf : F.fn 30) (hro : F.round = none) (hn : 1 ≤ n) (l Bs : Nat) (ad : Addr) (cap : Nat) (xs : List S34) (As : Nat → Option Addr) (Cs : Nat → Nat) (G : World → Prop) (O : World → Nat → Prop) (hE : EachOwn G O)
    (hreach : xs.length * 32 ≤ 140737488351232) (J Jx : List (Fin xs.length) → World → Prop) (W : World) (hJ : AbidesFrom W.heap.size J) (g0 : G W)
    (hY : ∀ (pre : List (Fin xs.length)) (x : Fin xs.length) (W1 : World), J pre W1 → pre.length < xs.length → YieldAt F (n - 1) Try.prog l (encB xs As Cs x) W1 fun e W' =>
      (e = .returned (.bool true) ∧ J (pre ++ [x]) W' ∧ EachKp G O W1 W') ∨ (e = .returned (.bool false) ∧ Jx (pre ++ [x]) W'))
    (hBs : W.heap[Bs]? = some (.cells #[.slice (some ad) xs.length cap] 27 (0, 0))) (hOs : ¬ O W Bs) (hOa : ¬ O W ad.block)
    (hc0 : ∀ j, j < xs.length → W.cell? (ad.add (j * 2)) = some (.int .i64 (xs.getD j z34).f0)) (hc1 : ∀ j, j < xs.length → W.cell? ⟨(ad.add (j * 2)).block, (ad.add (j * 2)).off + 1, none⟩ = some (.slice (As j) (xs.getD j z34).f1.length (Cs j))) (h0 : J [] W) :
    CallsIn F n Try.prog 30 #[.func (.yield l) #[] #[], .pointer (some ⟨Bs, 0, none⟩)] W fun e W' => (∃ v, e = .returned v) ∧
      ((∃ ys, ys = List.finRange xs.length ∧ J ys W') ∨ (∃ pre, (∃ k : Nat, k < xs.length ∧ pre = (List.finRange xs.length).take (k + 1)) ∧ Jx pre W')) := by
  have hcs := Boxed.cell (t := 27) (v := .slice (some ad) xs.length cap) hBs
  refine callsIn_of_wp Try.func30 rfl hf ?_ hro
  simp only [Try.ntmps30, List.size_toArray, List.length_cons, List.length_nil, Nat.reduceAdd, Nat.reduceSub, Array.replicate_succ, Array.replicate_zero, List.push_toArray, List.append_toArray, List.nil_append, List.cons_append]
  gi_wp2
  gi_loopw [3, 8] (fun p i wr => ∃ k : Nat, k ≤ xs.length ∧ p = .int .i64 (atP xs k) ∧ i = .int .i64 k ∧ J ((List.finRange xs.length).take k) wr ∧ EachKp G O W wr)
    (fun p i _ => xs.length - (intOf i).toNat)
  case atStart => exact ⟨0, Nat.zero_le _, rfl, rfl, h0, EachKp.grow hE ⟨rfl, rfl, rfl, Nat.le_refl _, fun _ _ _ => rfl⟩⟩
  case round =>
    obtain ⟨k, hk, rfl, rfl, hJs, hnx⟩ := hrel
    obtain ⟨gw, hsz, hcell, howns⟩ := hnx g0
    have hkeep : ∀ {a : Addr} {v : Value}, W.cell? a = some v → ¬ O W a.block → wr.cell? a = some v := fun {a v} h ho => by
      obtain ⟨cs, t, f, hh⟩ := cells_of_cell h
      rw [cell_of_heap (W := W) ((hcell _ cs t f hh ho).trans hh.symm)]; exact h
    by_cases hlt : k < xs.length
    · have hx0 := hkeep (hc0 k hlt) (by unfold Addr.add; split <;> exact hOa)
      have hx1 := hkeep (hc1 k hlt) (by unfold Addr.add; split <;> exact hOa)
      have hgB : wr.grownBy (wr.alloc (.cells #[.int .i64 xs[k].f0, .slice (As k) xs[k].f1.length (Cs k)] 34)) none := World.grownBy_alloc _ _ none
      have hJB := hJ _ _ _ none hJs hgB (fun r e => by cases e)
      obtain ⟨fn, tmps, assign, body, hy, hR⟩ := hY _ ⟨k, hlt⟩ _ hJB (by simp; omega)
      simp only [encB] at hy
      have hkB : EachKp G O W (wr.alloc (.cells #[.int .i64 xs[k].f0, .slice (As k) xs[k].f1.length (Cs k)] 34)) := hnx.trans (EachKp.grow hE hgB)
      have hnew := World.alloc_heap_new wr (.cells #[.int .i64 xs[k].f0, .slice (As k) xs[k].f1.length (Cs k)] 34)
      gi_wp2
      refine hR.mono ?_
      rintro e W3 (⟨rfl, hJ3, hk3⟩ | ⟨rfl, hJx3⟩)
      · -- the round goes on: the iterator's own box is read behind it
        obtain ⟨g3, s3, c3, o3⟩ := hk3 (hE.grow gw hgB).1
        have hbox := c3 wr.heap.size _ _ _ hnew (fun ho => by
          have := hE.lt gw ((hE.grow gw hgB).2 _ ho); omega)
        have hb0 : W3.cell? ⟨wr.heap.size, 0, none⟩ = some (.int .i64 xs[k].f0) := by simp [World.cell?, hbox]
        gi_wp2
        go_roundw
        case rel => exact ⟨k + 1, by omega, by rw [atP_succ xs k hlt]; simp [hlt], by simp, by
          have e_ : (List.finRange xs.length).take (k + 1) = (List.finRange xs.length).take k ++ [⟨k, hlt⟩] := by
            rw [List.take_add_one, List.getElem?_eq_getElem (by simpa using hlt)]; simp
          rw [e_]; exact hJ3, hkB.trans hk3⟩
        case measure => simp [intOf]; omega
      · gi_wp2
        refine bodyPost_ret (results_none rfl _ _ _) rfl ?_
        exact ⟨⟨_, rfl⟩, .inr ⟨_, ⟨k, hlt, by
          rw [List.take_add_one, List.getElem?_eq_getElem (by simpa using hlt)]; simp⟩, hJx3⟩⟩
    · obtain rfl : k = xs.length := by omega
      gi_wp2
      go_end0
      exact ⟨⟨_, rfl⟩, .inl ⟨_, rfl, by rw [List.take_of_length_le (by simp)] at hJs; exact hJs⟩⟩
set_option maxRecDepth 100000 in
set_option maxHeartbeats 8000000 in
theorem each1_nil (F : Fence) (n : Nat) (hf : F.fn 30) (hro : F.round = none) (l Bs : Nat) (A : Option Addr) (cap : Nat) (J : List (Fin 0) → World → Prop) (W : World) (hBs : W.heap[Bs]? = some (.cells #[.slice A 0 cap] 27 (0, 0))) (h0 : J [] W) :
    CallsIn F n Try.prog 30 #[.func (.yield l) #[] #[], .pointer (some ⟨Bs, 0, none⟩)] W fun e W' => (∃ v, e = .returned v) ∧ J [] W' := by
  have hcs := Boxed.cell (t := 27) (v := .slice A 0 cap) hBs
  refine callsIn_of_wp Try.func30 rfl hf ?_ hro
  simp only [Try.ntmps30, List.size_toArray, List.length_cons, List.length_nil, Nat.reduceAdd, Nat.reduceSub, Array.replicate_succ, Array.replicate_zero, List.push_toArray, List.append_toArray, List.nil_append, List.cons_append]
  gi_wp2
  gi_loopw [3, 8] (fun p i wr => p = .int .i64 0 ∧ i = .int .i64 0 ∧ J [] wr) (fun _ _ _ => 0)
  case atStart => exact ⟨rfl, rfl, h0⟩
  case round =>
    obtain ⟨rfl, rfl, hJs⟩ := hrel
    gi_wp2
    go_end0
    exact ⟨⟨_, rfl⟩, hJs⟩

set_option maxHeartbeats 1000000 in
theorem each_in (F : Fence) (n : Nat) (h25 : F.fn 25) (hro : F.round = none) (a : Option Addr) (len cap : Nat) (w : World) :
    CallsIn F n Try.prog 25 #[.slice a len cap] w fun e w' => e = .returned (.func (.func 30) #[] #[.pointer (some ⟨w.heap.size, 0, none⟩)]) ∧ w' = w.alloc (.cells #[.slice a len cap] 27) := by
  refine callsIn_of_wp Try.func25 rfl h25 ?_ hro
  simp only [Try.ntmps25, List.size_toArray, List.length_cons, List.length_nil, Nat.reduceAdd, Nat.reduceSub, Array.replicate_succ, Array.replicate_zero, List.push_toArray, List.append_toArray, List.nil_append, List.cons_append]
  gi_wp2
  go_ret
  exact ⟨rfl, rfl⟩

/-- The cells of a slice of blocks. -/
def EachCells (w : World) (A : Option Addr) (xs : List S34) (As : Nat → Option Addr) (Cs : Nat → Nat) : Prop :=
  ∀ j, j < xs.length → ∃ ad, A = some ad ∧ w.cell? (ad.add (j * 2)) = some (.int .i64 (xs.getD j z34).f0) ∧ w.cell? ⟨(ad.add (j * 2)).block, (ad.add (j * 2)).off + 1, none⟩ = some (.slice (As j) (xs.getD j z34).f1.length (Cs j))
theorem eachCells_of {w : World} {A : Option Addr} {xs : List S34} (h : Kd.C k34 w A xs.length xs) : ∃ As Cs, EachCells w A xs As Cs ∧ ∀ j, j < xs.length → (xs.getD j z34).f1.length ≤ Cs j ∧ Kd.C k46 w (As j) (xs.getD j z34).f1.length (xs.getD j z34).f1 := by
  have h1 : ∀ j : Nat, ∃ (p : Option Addr × Nat), j < xs.length → (∃ ad, A = some ad ∧ w.cell? (ad.add (j * 2)) = some (.int .i64 (xs.getD j z34).f0) ∧ w.cell? ⟨(ad.add (j * 2)).block, (ad.add (j * 2)).off + 1, none⟩ = some (.slice p.1 (xs.getD j z34).f1.length p.2)) ∧ (xs.getD j z34).f1.length ≤ p.2 ∧ Kd.C k46 w p.1 (xs.getD j z34).f1.length (xs.getD j z34).f1 := by
    intro j
    by_cases hj : j < xs.length
    · obtain ⟨ad, A1, c1, e, x0, x1, l1, i1⟩ := at_T34 h (j : Int) (by omega) (by omega)
      have e1 : rd_T34 xs (j : Int) = xs.getD j z34 := by simp [rd_T34]
      rw [e1] at x0 x1 l1 i1
      rw [Int.toNat_natCast] at x0 x1
      exact ⟨(A1, c1), fun _ => ⟨⟨ad, e, x0, x1⟩, l1, i1⟩⟩
    · exact ⟨(none, 0), fun hj2 => absurd hj2 hj⟩
  obtain ⟨f, hf⟩ := Classical.skolem.1 h1
  exact ⟨fun j => (f j).1, fun j => (f j).2, fun j hj => (hf j hj).1, fun j hj => (hf j hj).2⟩
theorem EachCells.below {w w' : World} {A : Option Addr} {xs : List S34} {As : Nat → Option Addr} {Cs : Nat → Nat} (h : EachCells w A xs As Cs) (hb : Below w.heap.size w w') : EachCells w' A xs As Cs := by
  intro j hj
  obtain ⟨ad, e, x0, x1⟩ := h j hj
  exact ⟨ad, e, (hb.cell (World.block_lt_of_cell? w _ x0)).trans x0, (hb.cell (World.block_lt_of_cell? w _ x1)).trans x1⟩
theorem add_block (a : Addr) (n : Nat) : (a.add n).block = a.block := by unfold Addr.add; split <;> rfl

theorem each_stops (F : Fence) (n : Nat) (hf : F.fn 30) (hro : F.round = none) (hn : 1 ≤ n) (Bs : Nat) (A : Option Addr) (cap : Nat) (xs : List S34) (As : Nat → Option Addr) (Cs : Nat → Nat) (G : World → Prop) (O : World → Nat → Prop) (hE : EachOwn G O)
    (hreach : xs.length * 32 ≤ 140737488351232) (w : World) (hGW : ∀ W, Below w.heap.size w W → G W ∧ ∀ k, k < w.heap.size → O W k → O w k) (hBs : w.heap[Bs]? = some (.cells #[.slice A xs.length cap] 27 (0, 0))) (hOs : ¬ O w Bs) (hOa : ∀ ad, A = some ad → 0 < xs.length → ¬ O w ad.block)
    (hc : EachCells w A xs As Cs) :
    SeqStopsK F n Try.prog 30 #[.pointer (some ⟨Bs, 0, none⟩)] (encB xs As Cs) (EachKp G O) (fun ys => ys = List.finRange xs.length) (fun pre => ∃ k : Nat, k < xs.length ∧ pre = (List.finRange xs.length).take (k + 1)) xs.length w := by
  intro l J Jx W hW hJ _ hY h0
  have hlt := (Array.getElem?_eq_some_iff.1 hBs).1
  have hBs' : W.heap[Bs]? = some (.cells #[.slice A xs.length cap] 27 (0, 0)) := (hW.block Bs hlt).trans hBs
  have hc' := hc.below hW
  rcases Nat.eq_zero_or_pos xs.length with hz | hz
  · obtain rfl := List.eq_nil_of_length_eq_zero hz
    exact (each1_nil F n hf hro l Bs A cap J W hBs' h0).mono fun e W' ⟨he, hj⟩ => ⟨he, .inl ⟨_, rfl, hj⟩⟩
  · obtain ⟨ad, rfl, x0, _⟩ := hc 0 hz
    refine each1_in F n hf hro hn l Bs ad cap xs As Cs G O hE hreach J Jx W hJ (hGW W hW).1 hY hBs' (fun h => hOs ((hGW W hW).2 _ hlt h)) (fun h => hOa ad rfl hz ((hGW W hW).2 _ ?_ h)) ?_ ?_ h0
    · have := World.block_lt_of_cell? w _ x0; rwa [add_block] at this
    · intro j hj; obtain ⟨ad2, e, y0, y1⟩ := hc' j hj; cases e; exact y0
    · intro j hj; obtain ⟨ad2, e, y0, y1⟩ := hc' j hj; cases e; exact y1
end Go.Proofs.Ytpnoeggnniagfaa.P
