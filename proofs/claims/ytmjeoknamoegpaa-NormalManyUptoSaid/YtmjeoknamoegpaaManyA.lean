-- by hand: NormalMany's flush (a function value that writes three captured variables)
import Derived.Test.YtmjeoknamoegpaaOfN
import Derived.Test.YtmjeoknamoegpaaSameO
namespace Go.Proofs.Ytmjeoknamoegpaa.P
open Go.RowKit Go.Proofs.YtmjeoknamoegpaaW.PrintWords Go.Proofs.YtmjeoknamoegpaaW.PrintLast Go.Proofs.YtmjeoknamoegpaaW.PrintMore
set_option linter.unusedVariables false
set_option linter.unusedSimpArgs false
structure Four where
  pg : Nat
  pa : Nat
  py : Nat
  pq : Nat
def Four.off (P : Four) (k : Nat) : Prop := k ≠ P.pg ∧ k ≠ P.pa ∧ k ≠ P.py ∧ k ≠ P.pq
structure MSY (W : World) (base : Nat) (P : Four) (ah : Bool) (g : Int) (vy : Value) (okY : Nat → Prop) (Y : List S30) (vq : Value) : Prop where
  bg : W.heap[P.pg]? = some (.cells #[.int .i64 g] 3 (0, 0))
  ba : W.heap[P.pa]? = some (.cells #[.bool ah] 4 (0, 0))
  by_ : W.heap[P.py]? = some (.cells #[vy] 23 (0, 0))
  bq : W.heap[P.pq]? = some (.cells #[vq] 23 (0, 0))
  lo : base ≤ P.pg ∧ base ≤ P.pa ∧ base ≤ P.py ∧ base ≤ P.pq
  ds : P.pg ≠ P.pa ∧ P.pg ≠ P.py ∧ P.pg ≠ P.pq ∧ P.pa ≠ P.py ∧ P.pa ≠ P.pq ∧ P.py ≠ P.pq
  nY : Kd.N k30 30 W base okY vy Y
  oY : ∀ k, okY k → k < W.heap.size ∧ (k < base ∨ P.off k)
structure QP (W : World) (base : Nat) (P : Four) (okY : Nat → Prop) (vq : Value) (okQ : Nat → Prop) (Q : List S30) : Prop where
  nQ : Kd.N k30 30 W base okQ vq Q
  oQ : ∀ k, okQ k → k < W.heap.size ∧ (k < base ∨ (P.off k ∧ ¬ okY k))
variable {W W1 w1 : World} {base : Nat} {P : Four} {ah : Bool} {g : Int} {vy vq v1 : Value} {okY okQ ok' : Nat → Prop} {Y Q Y' Q' : List S30}
theorem MSY.neY (h : MSY W base P ah g vy okY Y vq) : ∀ k, vy.ownBlock = some k → P.off k := fun k hk => by
  have h1 := Kd.N_base h.nY k hk
  have h2 := (h.oY k (h.nY.1 k hk)).2
  rcases h2 with h2 | h2
  · omega
  · exact h2
theorem QP.neY (hq : QP W base P okY vq okQ Q) : ∀ k, vq.ownBlock = some k → P.off k ∧ ¬ okY k := fun k hk => by
  have h1 := Kd.N_base hq.nQ k hk
  have h2 := (hq.oQ k (hq.nQ.1 k hk)).2
  rcases h2 with h2 | h2
  · omega
  · exact h2
theorem MSY.lts (h : MSY W base P ah g vy okY Y vq) : P.pg < W.heap.size ∧ P.pa < W.heap.size ∧ P.py < W.heap.size ∧ P.pq < W.heap.size := ⟨blk_lt h.bg, blk_lt h.ba, blk_lt h.by_, blk_lt h.bq⟩
theorem MSY.newOff (h : MSY W base P ah g vy okY Y vq) (k : Nat) (hk : W.heap.size ≤ k) : P.off k := by
  obtain ⟨h1, h2, h3, h4⟩ := h.lts
  exact ⟨by omega, by omega, by omega, by omega⟩
theorem MSY.below (h : MSY W base P ah g vy okY Y vq) (hb : Below W.heap.size W W1) : MSY W1 base P ah g vy okY Y vq :=
  ⟨blk_below h.bg hb, blk_below h.ba hb, blk_below h.by_ hb, blk_below h.bq hb, h.lo, h.ds, Kd.N_below h.nY hb, fun k hk => ⟨Nat.lt_of_lt_of_le (h.oY k hk).1 hb.size, (h.oY k hk).2⟩⟩
theorem QP.below (h : QP W base P okY vq okQ Q) (hb : Below W.heap.size W W1) : QP W1 base P okY vq okQ Q :=
  ⟨Kd.N_below h.nQ hb, fun k hk => ⟨Nat.lt_of_lt_of_le (h.oQ k hk).1 hb.size, (h.oQ k hk).2⟩⟩
/-- The rows' cells behind y's append. -/
theorem MSY.gy (h : MSY W base P ah g vy okY Y vq) (hg : W.grownBy w1 vy.ownBlock) : w1.heap[P.py]? = some (.cells #[vy] 23 (0, 0)) := blk_grown h.by_ hg (fun e_ => (h.neY P.py e_.symm).2.2.1 rfl)
theorem MSY.gyc (h : MSY W base P ah g vy okY Y vq) (hg : W.grownBy w1 vy.ownBlock) : w1.cell? ⟨P.py, 0, none⟩ = some vy := (blk_cell (h.gy hg) 0).trans rfl
theorem MSY.putY (h : MSY W base P ah g vy okY Y vq) (hg : W.grownBy w1 vy.ownBlock) (hsz : W.heap.size ≤ w1.heap.size) (hok : ∀ k, ok' k → k < base ∨ P.off k) (hN : Kd.N k30 30 w1 base ok' v1 Y') : MSY (w1.setCell ⟨P.py, 0, none⟩ v1) base P ah g v1 (fun k => ok' k ∧ k < w1.heap.size) Y' vq := by
  obtain ⟨d1, d2, d3, d4, d5, d6⟩ := h.ds
  have hs : (w1.setCell ⟨P.py, 0, none⟩ v1).heap.size = w1.heap.size := by simp [World.setCell]
  have hf := blk_frozen (h.gy hg) 0
  refine ⟨?_, ?_, ?_, ?_, h.lo, h.ds, ?_, ?_⟩
  · exact blk_far (blk_grown h.bg hg (fun e_ => (h.neY P.pg e_.symm).1 rfl)) d2 _
  · exact blk_far (blk_grown h.ba hg (fun e_ => (h.neY P.pa e_.symm).2.1 rfl)) d4 _
  · exact blk_put (h.gy hg) 0 _ rfl
  · exact blk_far (blk_grown h.bq hg (fun e_ => (h.neY P.pq e_.symm).2.2.2 rfl)) (fun e_ => d6 e_.symm) _
  · refine Kd.N_far (p := ⟨P.py, 0, none⟩) (Kd.N_bound hN) (fun k hk => ?_) _
    rcases hok k hk.1 with h1 | h1
    · have := h.lo.2.2.1; show k ≠ P.py; omega
    · exact h1.2.2.1
  · intro k hk
    rw [hs]
    exact ⟨hk.2, hok k hk.1⟩
theorem QP.putY (hq : QP W base P okY vq okQ Q) (h : MSY W base P ah g vy okY Y vq) (hg : W.grownBy w1 vy.ownBlock) (hsz : W.heap.size ≤ w1.heap.size) (u : Value) (hok : ∀ k, ok' k → k < base ∨ okY k ∨ W.heap.size ≤ k) : QP (w1.setCell ⟨P.py, 0, none⟩ u) base P (fun k => ok' k ∧ k < w1.heap.size) vq okQ Q := by
  have hs : (w1.setCell ⟨P.py, 0, none⟩ u).heap.size = w1.heap.size := by simp [World.setCell]
  refine ⟨Kd.N_far (p := ⟨P.py, 0, none⟩) (Kd.N_grown hq.nQ hg (fun k hk e_ => ?_)) (fun k hk => ?_) _, fun k hk => ?_⟩
  · have h1 := Kd.N_base h.nY k e_.symm
    have h2 := h.nY.1 k e_.symm
    rcases (hq.oQ k hk).2 with h3 | h3
    · omega
    · exact h3.2 h2
  · rcases (hq.oQ k hk).2 with h3 | h3
    · have := h.lo.2.2.1; show k ≠ P.py; omega
    · exact h3.1.2.2.1
  · rw [hs]
    obtain ⟨h1, h2⟩ := hq.oQ k hk
    refine ⟨by omega, ?_⟩
    rcases Nat.lt_or_ge k base with hb | hb
    · exact .inl hb
    · rcases h2 with h3 | h3
      · exact .inl h3
      · refine .inr ⟨h3.1, fun h4 => ?_⟩
        rcases hok k h4.1 with h5 | h5 | h5
        · omega
        · exact h3.2 h5
        · omega
/-- The rows' cells behind the gap's append. -/
theorem QP.gq (hq : QP W base P okY vq okQ Q) (h : MSY W base P ah g vy okY Y vq) (hg : W.grownBy w1 vq.ownBlock) : w1.heap[P.pq]? = some (.cells #[vq] 23 (0, 0)) := blk_grown h.bq hg (fun e_ => (hq.neY P.pq e_.symm).1.2.2.2 rfl)
theorem QP.gqc (hq : QP W base P okY vq okQ Q) (h : MSY W base P ah g vy okY Y vq) (hg : W.grownBy w1 vq.ownBlock) : w1.cell? ⟨P.pq, 0, none⟩ = some vq := (blk_cell (hq.gq h hg) 0).trans rfl
theorem QP.putQ (hq : QP W base P okY vq okQ Q) (h : MSY W base P ah g vy okY Y vq) (hg : W.grownBy w1 vq.ownBlock) (hsz : W.heap.size ≤ w1.heap.size) (hok : ∀ k, ok' k → k < base ∨ okQ k ∨ W.heap.size ≤ k) (hN : Kd.N k30 30 w1 base ok' v1 Q') :
    MSY (w1.setCell ⟨P.pq, 0, none⟩ v1) base P ah g vy okY Y v1 ∧ QP (w1.setCell ⟨P.pq, 0, none⟩ v1) base P okY v1 (fun k => ok' k ∧ k < w1.heap.size) Q' := by
  obtain ⟨d1, d2, d3, d4, d5, d6⟩ := h.ds
  have hs : (w1.setCell ⟨P.pq, 0, none⟩ v1).heap.size = w1.heap.size := by simp [World.setCell]
  refine ⟨⟨?_, ?_, ?_, ?_, h.lo, h.ds, ?_, ?_⟩, ?_, ?_⟩
  · exact blk_far (blk_grown h.bg hg (fun e_ => (hq.neY P.pg e_.symm).1.1 rfl)) d3 _
  · exact blk_far (blk_grown h.ba hg (fun e_ => (hq.neY P.pa e_.symm).1.2.1 rfl)) d5 _
  · exact blk_far (blk_grown h.by_ hg (fun e_ => (hq.neY P.py e_.symm).1.2.2.1 rfl)) d6 _
  · exact blk_put (hq.gq h hg) 0 _ rfl
  · refine Kd.N_far (p := ⟨P.pq, 0, none⟩) (Kd.N_grown h.nY hg (fun k hk e_ => (hq.neY k e_.symm).2 hk)) (fun k hk => ?_) _
    rcases (h.oY k hk).2 with h1 | h1
    · have := h.lo.2.2.2; show k ≠ P.pq; omega
    · exact h1.2.2.2
  · intro k hk
    rw [hs]
    have := h.oY k hk
    exact ⟨by omega, this.2⟩
  · refine Kd.N_far (p := ⟨P.pq, 0, none⟩) (Kd.N_bound hN) (fun k hk => ?_) _
    rcases hok k hk.1 with h1 | h1 | h1
    · have := h.lo.2.2.2; show k ≠ P.pq; omega
    · rcases (hq.oQ k h1).2 with h2 | h2
      · have := h.lo.2.2.2; show k ≠ P.pq; omega
      · exact h2.1.2.2.2
    · exact (h.newOff k h1).2.2.2
  · intro k hk
    rw [hs]
    refine ⟨hk.2, ?_⟩
    rcases hok k hk.1 with h1 | h1 | h1
    · exact .inl h1
    · exact (hq.oQ k h1).2
    · exact .inr ⟨h.newOff k h1, fun h2 => by have := (h.oY k h2).1; omega⟩
theorem MSY.nilQ (h : MSY W base P ah g vy okY Y vq) : MSY (W.setCell ⟨P.pq, 0, none⟩ (.slice none 0 0)) base P ah g vy okY Y (.slice none 0 0) := by
  obtain ⟨d1, d2, d3, d4, d5, d6⟩ := h.ds
  have hs : (W.setCell ⟨P.pq, 0, none⟩ (.slice none 0 0)).heap.size = W.heap.size := by simp [World.setCell]
  refine ⟨blk_far h.bg d3 _, blk_far h.ba d5 _, blk_far h.by_ d6 _, blk_put h.bq 0 _ rfl, h.lo, h.ds, Kd.N_far (p := ⟨P.pq, 0, none⟩) h.nY (fun k hk => ?_) _, fun k hk => by rw [hs]; exact h.oY k hk⟩
  rcases (h.oY k hk).2 with h1 | h1
  · have := h.lo.2.2.2; show k ≠ P.pq; omega
  · exact h1.2.2.2
theorem MSY.putG (h : MSY W base P ah g vy okY Y vq) (g' : Int) : MSY (W.setCell ⟨P.pg, 0, none⟩ (.int .i64 g')) base P ah g' vy okY Y vq := by
  obtain ⟨d1, d2, d3, d4, d5, d6⟩ := h.ds
  have hs : (W.setCell ⟨P.pg, 0, none⟩ (.int .i64 g')).heap.size = W.heap.size := by simp [World.setCell]
  refine ⟨blk_put h.bg 0 _ rfl, blk_far h.ba (fun e_ => d1 e_.symm) _, blk_far h.by_ (fun e_ => d2 e_.symm) _, blk_far h.bq (fun e_ => d3 e_.symm) _, h.lo, h.ds, Kd.N_far (p := ⟨P.pg, 0, none⟩) h.nY (fun k hk => ?_) _, fun k hk => by rw [hs]; exact h.oY k hk⟩
  rcases (h.oY k hk).2 with h1 | h1
  · have := h.lo.1; show k ≠ P.pg; omega
  · exact h1.1
theorem QP.putG (hq : QP W base P okY vq okQ Q) (h : MSY W base P ah g vy okY Y vq) (g' : Int) : QP (W.setCell ⟨P.pg, 0, none⟩ (.int .i64 g')) base P okY vq okQ Q := by
  have hs : (W.setCell ⟨P.pg, 0, none⟩ (.int .i64 g')).heap.size = W.heap.size := by simp [World.setCell]
  refine ⟨Kd.N_far (p := ⟨P.pg, 0, none⟩) hq.nQ (fun k hk => ?_) _, fun k hk => by rw [hs]; exact hq.oQ k hk⟩
  rcases (hq.oQ k hk).2 with h1 | h1
  · have := h.lo.1; show k ≠ P.pg; omega
  · exact h1.1.1
theorem QP.nil (W : World) (base : Nat) (P : Four) (okY : Nat → Prop) : QP W base P okY (.slice none 0 0) (fun _ => False) [] := ⟨Kd.N_nil _ _ _ _ _, fun k hk => hk.elim⟩
/-! ### the walk of the function value -/
def delO (g : Int) : S30 := ⟨3, g, [], [], []⟩
def flushM (ah : Bool) (Y Q : List S30) (g : Int) : List S30 := Y ++ (if 0 < g ∧ ah = true then [delO g] else []) ++ Q ++ (if 0 < g ∧ ah = false then [delO g] else [])
def FlPost (w : World) (base : Nat) (P : Four) (ah : Bool) (Y' : List S30) (w' : World) : Prop := Below base w w' ∧ ∃ vy okY, MSY w' base P ah 0 vy okY Y' (.slice none 0 0)
theorem MSY.okYQ (h : MSY W base P ah g vy okY Y vq) (hq : QP W base P okY vq okQ Q) : (∀ k, okQ k → (okY k ∨ okQ k ∨ W.heap.size ≤ k) ∧ some k ≠ vy.ownBlock) ∧ ∀ k, (okY k ∨ okQ k ∨ W.heap.size ≤ k) → k < base ∨ P.off k := by
  refine ⟨fun k hk => ⟨.inr (.inl hk), fun e_ => ?_⟩, fun k hk => ?_⟩
  · have h1 := Kd.N_base h.nY k e_.symm
    have h2 := h.nY.1 k e_.symm
    rcases (hq.oQ k hk).2 with h3 | h3
    · omega
    · exact h3.2 h2
  · rcases hk with hk | hk | hk
    · exact (h.oY k hk).2
    · exact (hq.oQ k hk).2.imp id (fun h3 => h3.1)
    · exact .inr (h.newOff k hk)
theorem MSY.okD (h : MSY W base P ah g vy okY Y vq) : ∀ k, (okY k ∨ W.heap.size ≤ k) → k < base ∨ P.off k := fun k hk => by
  rcases hk with hk | hk
  · exact (h.oY k hk).2
  · exact .inr (h.newOff k hk)

/-- What stands behind a store into y. -/
theorem MSY.blocksY (h : MSY W base P ah g vy okY Y vq) (hg : W.grownBy w1 vy.ownBlock) (u : Value) : (w1.setCell ⟨P.py, 0, none⟩ u).heap[P.pg]? = some (.cells #[.int .i64 g] 3 (0, 0)) ∧ (w1.setCell ⟨P.py, 0, none⟩ u).heap[P.pa]? = some (.cells #[.bool ah] 4 (0, 0)) ∧ (w1.setCell ⟨P.py, 0, none⟩ u).heap[P.py]? = some (.cells #[u] 23 (0, 0)) ∧ (w1.setCell ⟨P.py, 0, none⟩ u).heap[P.pq]? = some (.cells #[vq] 23 (0, 0)) := by
  obtain ⟨d1, d2, d3, d4, d5, d6⟩ := h.ds
  exact ⟨blk_far (blk_grown h.bg hg (fun e_ => (h.neY P.pg e_.symm).1 rfl)) d2 _, blk_far (blk_grown h.ba hg (fun e_ => (h.neY P.pa e_.symm).2.1 rfl)) d4 _, blk_put (h.gy hg) 0 _ rfl, blk_far (blk_grown h.bq hg (fun e_ => (h.neY P.pq e_.symm).2.2.2 rfl)) (fun e_ => d6 e_.symm) _⟩
theorem MSY.factsY (h : MSY W base P ah g vy okY Y vq) (hg : W.grownBy w1 vy.ownBlock) (u : Value) : (w1.setCell ⟨P.py, 0, none⟩ u).cell? ⟨P.pg, 0, none⟩ = some (.int .i64 g) ∧ (w1.setCell ⟨P.py, 0, none⟩ u).cell? ⟨P.pa, 0, none⟩ = some (.bool ah) ∧ (w1.setCell ⟨P.py, 0, none⟩ u).cell? ⟨P.py, 0, none⟩ = some u ∧ (w1.setCell ⟨P.py, 0, none⟩ u).cell? ⟨P.pq, 0, none⟩ = some vq := by
  obtain ⟨b1, b2, b3, b4⟩ := h.blocksY hg u
  exact ⟨(blk_cell b1 0).trans rfl, (blk_cell b2 0).trans rfl, (blk_cell b3 0).trans rfl, (blk_cell b4 0).trans rfl⟩
theorem MSY.frzY (h : MSY W base P ah g vy okY Y vq) (hg : W.grownBy w1 vy.ownBlock) (u : Value) : (w1.setCell ⟨P.py, 0, none⟩ u).frozen? ⟨P.pq, 0, none⟩ = false ∧ ((w1.setCell ⟨P.py, 0, none⟩ u).setCell ⟨P.pq, 0, none⟩ (.slice none 0 0)).frozen? ⟨P.pg, 0, none⟩ = false ∧ ((w1.setCell ⟨P.py, 0, none⟩ u).setCell ⟨P.pq, 0, none⟩ (.slice none 0 0)).cell? ⟨P.pg, 0, none⟩ = some (.int .i64 g) := by
  obtain ⟨b1, b2, b3, b4⟩ := h.blocksY hg u
  exact ⟨blk_frozen b4 0, blk_frozen (blk_far (p := ⟨P.pq, 0, none⟩) b1 h.ds.2.2.1 _) 0, (blk_cell (blk_far (p := ⟨P.pq, 0, none⟩) b1 h.ds.2.2.1 _) 0).trans rfl⟩
theorem app_le {Y Q L : List S30} {n : Nat} (h : L = Y ++ Q) (hy : Y.length ≤ n) (hq : Q.length ≤ 1000000) : L.length ≤ n + 1000000 := by rw [h, List.length_append]; omega
theorem hx_of {v : Value} {n m : Nat} (h : n = m) (hv : v = .slice (some ⟨m, 0, none⟩) 1 1) : v = .slice (some ⟨n, 0, none⟩) 1 1 := by rw [h]; exact hv
theorem len1_le (g : Int) : [delO g].length ≤ 1000000 := by simp
theorem setCell_size (W : World) (p : Addr) (u : Value) : (W.setCell p u).heap.size = W.heap.size := by simp [World.setCell]

set_option maxHeartbeats 2000000 in
set_option maxRecDepth 100000 in
theorem flush_c (w W : World) (base : Nat) (P : Four) (ah : Bool) (g : Int) (vy vq : Value) (okY okQ : Nat → Prop) (Y Q : List S30) (hM : MSY W base P ah g vy okY Y vq) (hB : Below base w W) (hZ : base ≤ W.heap.size) (hY : Y.length ≤ 1000000) (hQl : Q.length ≤ 1000000) (hQ : QP W base P okY vq okQ Q) (hg : decide (0 < g) = false) :
    Calls Try.prog 10 #[.pointer (some ⟨P.pg, 0, none⟩), .pointer (some ⟨P.pa, 0, none⟩), .pointer (some ⟨P.py, 0, none⟩), .pointer (some ⟨P.pq, 0, none⟩)] W fun e w' => e = .returned (.tuple #[]) ∧ FlPost w base P ah (Y ++ Q) w' := by
  obtain ⟨Aq, cq, rfl⟩ := Kd.N_slice hQ.nQ
  have HM := Aside0.mk hM
  have HQ := Aside0.mk hQ
  have HB := Aside0.mk hB
  have HZ := Aside0.mk hZ
  clear hM hQ hB hZ
  have cg : W.cell? ⟨P.pg, 0, none⟩ = some (.int .i64 g) := (blk_cell HM.out.bg 0).trans rfl
  have ca : W.cell? ⟨P.pa, 0, none⟩ = some (.bool ah) := (blk_cell HM.out.ba 0).trans rfl
  have cy : W.cell? ⟨P.py, 0, none⟩ = some vy := (blk_cell HM.out.by_ 0).trans rfl
  have cq_ : W.cell? ⟨P.pq, 0, none⟩ = some (.slice Aq Q.length cq) := (blk_cell HM.out.bq 0).trans rfl
  go_enter Try.func10, Try.ntmps10
  go_wp2_with ((with_reducible refine gate_builtin (b := .append) (xs := #[.tmp 14, .tmp 15]) rfl ?_); at_builtin; refine Kd.N_append_rows k30 (w0 := w) base rfl (.tmp 14) (.tmp 15) 23 30 (.agg #[(.int .u8 0), (.int .i64 0), (.slice none 0 0), (.slice none 0 0), (.slice none 0 0)]) 88 rfl Try.underlying23 info30 rfl (by decide) (by omega) vy Y Q Aq Q.length cq (fun k => okY k ∨ okQ k ∨ W.heap.size ≤ k) okQ rfl rfl (Kd.N_mono HM.out.nY (fun _ hk => .inl hk)) (Kd.N_F HQ.out.nQ) (HM.out.okYQ HQ.out).1 (fun k hk => .inr (.inr hk)) HB.out HZ.out (by (try simp only [List.length_append, List.length_singleton]); omega) ?_; intro v2 w2 hN1 hB1 hg1 hat1; obtain ⟨L2, hL2⟩ : ∃ L_, L_ = (Y ++ Q) := ⟨_, rfl⟩; rw [← hL2] at hN1; have hl2 := app_le hL2 hY hQl; have HL2 := Aside0.mk hL2; clear hL2; obtain ⟨A2, c2, rfl⟩ := Kd.N_slice hN1; have cy2 := HM.out.gyc hg1; have fy2 := blk_frozen (HM.out.gy hg1) 0; obtain ⟨cg2_, ca2_, cz2_, cq2_⟩ := HM.out.factsY hg1 (.slice A2 L2.length c2); obtain ⟨fq2_, fg2_, cn2_⟩ := HM.out.frzY hg1 (.slice A2 L2.length c2); have HM2 := Aside0.mk (HM.out.putY hg1 hg1.size ((HM.out.okYQ HQ.out).2) hN1); have HB2 := Aside0.mk (hB1.setCell (p := ⟨P.py, 0, none⟩) HM.out.lo.2.2.1 (.slice A2 L2.length c2)); clear hN1 hB1 hg1 hat1)
  have e4 := HL2.out
  go_end0
  refine ⟨rfl, ?_⟩
  rw [← e4]
  exact ⟨(HB2.out.setCell (p := ⟨P.pq, 0, none⟩) HM.out.lo.2.2.2 _).setCell (p := ⟨P.pg, 0, none⟩) HM.out.lo.1 _, _, _, (HM2.out.nilQ).putG 0⟩

set_option maxHeartbeats 2000000 in
set_option maxRecDepth 100000 in
theorem flush_b (w W : World) (base : Nat) (P : Four) (g : Int) (vy vq : Value) (okY okQ : Nat → Prop) (Y Q : List S30) (hM : MSY W base P false g vy okY Y vq) (hB : Below base w W) (hZ : base ≤ W.heap.size) (hY : Y.length ≤ 1000000) (hQl : Q.length ≤ 1000000) (hQ : QP W base P okY vq okQ Q) (hg : decide (0 < g) = true) :
    Calls Try.prog 10 #[.pointer (some ⟨P.pg, 0, none⟩), .pointer (some ⟨P.pa, 0, none⟩), .pointer (some ⟨P.py, 0, none⟩), .pointer (some ⟨P.pq, 0, none⟩)] W fun e w' => e = .returned (.tuple #[]) ∧ FlPost w base P false (Y ++ Q ++ [delO g]) w' := by
  obtain ⟨Aq, cq, rfl⟩ := Kd.N_slice hQ.nQ
  have HM := Aside0.mk hM
  have HQ := Aside0.mk hQ
  have HB := Aside0.mk hB
  have HZ := Aside0.mk hZ
  clear hM hQ hB hZ
  have cg : W.cell? ⟨P.pg, 0, none⟩ = some (.int .i64 g) := (blk_cell HM.out.bg 0).trans rfl
  have ca : W.cell? ⟨P.pa, 0, none⟩ = some (.bool false) := (blk_cell HM.out.ba 0).trans rfl
  have cy : W.cell? ⟨P.py, 0, none⟩ = some vy := (blk_cell HM.out.by_ 0).trans rfl
  have cq_ : W.cell? ⟨P.pq, 0, none⟩ = some (.slice Aq Q.length cq) := (blk_cell HM.out.bq 0).trans rfl
  go_enter Try.func10, Try.ntmps10
  go_wp2_with (first | ((with_reducible refine gate_builtin (b := .append) (xs := #[.tmp 14, .tmp 15]) rfl ?_); at_builtin; refine Kd.N_append_rows k30 (w0 := w) base rfl (.tmp 14) (.tmp 15) 23 30 (.agg #[(.int .u8 0), (.int .i64 0), (.slice none 0 0), (.slice none 0 0), (.slice none 0 0)]) 88 rfl Try.underlying23 info30 rfl (by decide) (by omega) vy Y Q Aq Q.length cq (fun k => okY k ∨ okQ k ∨ W.heap.size ≤ k) okQ rfl rfl (Kd.N_mono HM.out.nY (fun _ hk => .inl hk)) (Kd.N_F HQ.out.nQ) (HM.out.okYQ HQ.out).1 (fun k hk => .inr (.inr hk)) HB.out HZ.out (by (try simp only [List.length_append, List.length_singleton]); omega) ?_; intro v2 w2 hN1 hB1 hg1 hat1; obtain ⟨L2, hL2⟩ : ∃ L_, L_ = (Y ++ Q) := ⟨_, rfl⟩; rw [← hL2] at hN1; have hl2 := app_le hL2 hY hQl; have HL2 := Aside0.mk hL2; clear hL2; obtain ⟨A2, c2, rfl⟩ := Kd.N_slice hN1; have cy2 := HM.out.gyc hg1; have fy2 := blk_frozen (HM.out.gy hg1) 0; obtain ⟨cg2_, ca2_, cz2_, cq2_⟩ := HM.out.factsY hg1 (.slice A2 L2.length c2); obtain ⟨fq2_, fg2_, cn2_⟩ := HM.out.frzY hg1 (.slice A2 L2.length c2); have HM2 := Aside0.mk (HM.out.putY hg1 hg1.size ((HM.out.okYQ HQ.out).2) hN1); have HB2 := Aside0.mk (hB1.setCell (p := ⟨P.py, 0, none⟩) HM.out.lo.2.2.1 (.slice A2 L2.length c2)); have HZ2 := Aside0.mk (show base ≤ (w2.setCell ⟨P.py, 0, none⟩ (.slice A2 L2.length c2)).heap.size from Nat.le_trans HZ.out (Nat.le_trans hg1.size (Nat.le_of_eq (setCell_size _ _ _).symm))); clear hN1 hB1 hg1 hat1) | ((with_reducible refine gate_builtin (b := .append) (xs := #[.tmp 23, .tmp 26]) rfl ?_); at_builtin; refine Kd.N_append k30 (w0 := w) base rfl (.tmp 23) (.tmp 26) 23 30 (.agg #[(.int .u8 0), (.int .i64 0), (.slice none 0 0), (.slice none 0 0), (.slice none 0 0)]) 88 rfl Try.underlying23 info30 rfl (by decide) (by omega) (.slice A2 L2.length c2) L2 (delO g) [.int .u8 3, .int .i64 g, .slice none 0 0, .slice none 0 0, .slice none 0 0] (fun k => (fun k => (okY k ∨ okQ k ∨ W.heap.size ≤ k) ∧ k < w2.heap.size) k ∨ (w2.setCell ⟨P.py, 0, none⟩ (.slice A2 L2.length c2)).heap.size ≤ k) (fun _ => False) rfl (hx_of (setCell_size _ _ _) rfl) (op3_FK _ _ _ _) (fun _ hk => hk.elim) (fun k hk => .inr hk) (Kd.N_mono HM2.out.nY (fun _ hk => .inl hk)) HB2.out HZ2.out (by (try simp only [List.length_append]); omega) ?_; intro v4 w4 hN1 hB1 hg1 hat1; obtain ⟨L4, hL4⟩ : ∃ L_, L_ = (L2 ++ [delO g]) := ⟨_, rfl⟩; rw [← hL4] at hN1; have hl4 := app_le hL4 hl2 (len1_le g); have HL4 := Aside0.mk hL4; clear hL4; obtain ⟨A4, c4, rfl⟩ := Kd.N_slice hN1; have cy4 := HM2.out.gyc hg1; have fy4 := blk_frozen (HM2.out.gy hg1) 0; obtain ⟨cg4_, ca4_, cz4_, cq4_⟩ := HM2.out.factsY hg1 (.slice A4 L4.length c4); obtain ⟨fq4_, fg4_, cn4_⟩ := HM2.out.frzY hg1 (.slice A4 L4.length c4); have HM4 := Aside0.mk (HM2.out.putY hg1 hg1.size (HM2.out.okD) hN1); have HB4 := Aside0.mk (hB1.setCell (p := ⟨P.py, 0, none⟩) HM2.out.lo.2.2.1 (.slice A4 L4.length c4)); clear hN1 hB1 hg1 hat1))
  have e4 := HL4.out
  rw [HL2.out] at e4
  go_end0
  refine ⟨rfl, ?_⟩
  rw [← e4]
  exact ⟨(HB4.out.setCell (p := ⟨P.pq, 0, none⟩) HM.out.lo.2.2.2 _).setCell (p := ⟨P.pg, 0, none⟩) HM.out.lo.1 _, _, _, (HM4.out.nilQ).putG 0⟩

set_option maxHeartbeats 2000000 in
set_option maxRecDepth 100000 in
theorem flush_a (w W : World) (base : Nat) (P : Four) (g : Int) (vy vq : Value) (okY okQ : Nat → Prop) (Y Q : List S30) (hM : MSY W base P true g vy okY Y vq) (hB : Below base w W) (hZ : base ≤ W.heap.size) (hY : Y.length ≤ 1000000) (hQl : Q.length ≤ 1000000) (hQ : QP W base P okY vq okQ Q) (hg : decide (0 < g) = true) :
    Calls Try.prog 10 #[.pointer (some ⟨P.pg, 0, none⟩), .pointer (some ⟨P.pa, 0, none⟩), .pointer (some ⟨P.py, 0, none⟩), .pointer (some ⟨P.pq, 0, none⟩)] W fun e w' => e = .returned (.tuple #[]) ∧ FlPost w base P true (Y ++ [delO g] ++ Q) w' := by
  obtain ⟨Aq, cq, rfl⟩ := Kd.N_slice hQ.nQ
  have HM := Aside0.mk hM
  have HQ := Aside0.mk hQ
  have HB := Aside0.mk hB
  have HZ := Aside0.mk hZ
  clear hM hQ hB hZ
  have cg : W.cell? ⟨P.pg, 0, none⟩ = some (.int .i64 g) := (blk_cell HM.out.bg 0).trans rfl
  have ca : W.cell? ⟨P.pa, 0, none⟩ = some (.bool true) := (blk_cell HM.out.ba 0).trans rfl
  have cy : W.cell? ⟨P.py, 0, none⟩ = some vy := (blk_cell HM.out.by_ 0).trans rfl
  have cq_ : W.cell? ⟨P.pq, 0, none⟩ = some (.slice Aq Q.length cq) := (blk_cell HM.out.bq 0).trans rfl
  go_enter Try.func10, Try.ntmps10
  go_wp2_with (first | ((with_reducible refine gate_builtin (b := .append) (xs := #[.tmp 9, .tmp 12]) rfl ?_); at_builtin; refine Kd.N_append k30 (w0 := w) base rfl (.tmp 9) (.tmp 12) 23 30 (.agg #[(.int .u8 0), (.int .i64 0), (.slice none 0 0), (.slice none 0 0), (.slice none 0 0)]) 88 rfl Try.underlying23 info30 rfl (by decide) (by omega) vy Y (delO g) [.int .u8 3, .int .i64 g, .slice none 0 0, .slice none 0 0, .slice none 0 0] (fun k => okY k ∨ W.heap.size ≤ k) (fun _ => False) rfl rfl (op3_FK _ _ _ _) (fun _ hk => hk.elim) (fun k hk => .inr hk) (Kd.N_mono HM.out.nY (fun _ hk => .inl hk)) HB.out HZ.out (by (try simp only [List.length_append]); omega) ?_; intro v2 w2 hN1 hB1 hg1 hat1; obtain ⟨L2, hL2⟩ : ∃ L_, L_ = (Y ++ [delO g]) := ⟨_, rfl⟩; rw [← hL2] at hN1; have hl2 := app_le hL2 hY (len1_le g); have HL2 := Aside0.mk hL2; clear hL2; obtain ⟨A2, c2, rfl⟩ := Kd.N_slice hN1; have cy2 := HM.out.gyc hg1; have fy2 := blk_frozen (HM.out.gy hg1) 0; obtain ⟨cg2_, ca2_, cz2_, cq2_⟩ := HM.out.factsY hg1 (.slice A2 L2.length c2); obtain ⟨fq2_, fg2_, cn2_⟩ := HM.out.frzY hg1 (.slice A2 L2.length c2); have HM2 := Aside0.mk (HM.out.putY hg1 hg1.size (HM.out.okD) hN1); have HB2 := Aside0.mk (hB1.setCell (p := ⟨P.py, 0, none⟩) HM.out.lo.2.2.1 (.slice A2 L2.length c2)); have HQ2 := Aside0.mk (HQ.out.putY HM.out hg1 hg1.size (.slice A2 L2.length c2) (ok' := fun k => okY k ∨ W.heap.size ≤ k) (fun k hk => .inr hk)); have HZ2 := Aside0.mk (show base ≤ (w2.setCell ⟨P.py, 0, none⟩ (.slice A2 L2.length c2)).heap.size from Nat.le_trans HZ.out (Nat.le_trans hg1.size (Nat.le_of_eq (setCell_size _ _ _).symm))); clear hN1 hB1 hg1 hat1) | ((with_reducible refine gate_builtin (b := .append) (xs := #[.tmp 14, .tmp 15]) rfl ?_); at_builtin; refine Kd.N_append_rows k30 (w0 := w) base rfl (.tmp 14) (.tmp 15) 23 30 (.agg #[(.int .u8 0), (.int .i64 0), (.slice none 0 0), (.slice none 0 0), (.slice none 0 0)]) 88 rfl Try.underlying23 info30 rfl (by decide) (by omega) (.slice A2 L2.length c2) L2 Q Aq Q.length cq (fun k => (fun k => (okY k ∨ W.heap.size ≤ k) ∧ k < w2.heap.size) k ∨ okQ k ∨ (w2.setCell ⟨P.py, 0, none⟩ (.slice A2 L2.length c2)).heap.size ≤ k) okQ rfl rfl (Kd.N_mono HM2.out.nY (fun _ hk => .inl hk)) (Kd.N_F HQ2.out.nQ) (HM2.out.okYQ HQ2.out).1 (fun k hk => .inr (.inr hk)) HB2.out HZ2.out (by (try simp only [List.length_append, List.length_singleton]); omega) ?_; intro v4 w4 hN1 hB1 hg1 hat1; obtain ⟨L4, hL4⟩ : ∃ L_, L_ = (L2 ++ Q) := ⟨_, rfl⟩; rw [← hL4] at hN1; have hl4 := app_le hL4 hl2 hQl; have HL4 := Aside0.mk hL4; clear hL4; obtain ⟨A4, c4, rfl⟩ := Kd.N_slice hN1; have cy4 := HM2.out.gyc hg1; have fy4 := blk_frozen (HM2.out.gy hg1) 0; obtain ⟨cg4_, ca4_, cz4_, cq4_⟩ := HM2.out.factsY hg1 (.slice A4 L4.length c4); obtain ⟨fq4_, fg4_, cn4_⟩ := HM2.out.frzY hg1 (.slice A4 L4.length c4); have HM4 := Aside0.mk (HM2.out.putY hg1 hg1.size ((HM2.out.okYQ HQ2.out).2) hN1); have HB4 := Aside0.mk (hB1.setCell (p := ⟨P.py, 0, none⟩) HM2.out.lo.2.2.1 (.slice A4 L4.length c4)); clear hN1 hB1 hg1 hat1))
  have e4 := HL4.out
  rw [HL2.out] at e4
  go_end0
  refine ⟨rfl, ?_⟩
  rw [← e4]
  exact ⟨(HB4.out.setCell (p := ⟨P.pq, 0, none⟩) HM.out.lo.2.2.2 _).setCell (p := ⟨P.pg, 0, none⟩) HM.out.lo.1 _, _, _, (HM4.out.nilQ).putG 0⟩

theorem flush_calls (w W : World) (base : Nat) (P : Four) (ah : Bool) (g : Int) (vy vq : Value) (okY okQ : Nat → Prop) (Y Q : List S30) (hM : MSY W base P ah g vy okY Y vq) (hB : Below base w W) (hZ : base ≤ W.heap.size) (hY : Y.length ≤ 1000000) (hQl : Q.length ≤ 1000000) (hQ : QP W base P okY vq okQ Q) :
    Calls Try.prog 10 #[.pointer (some ⟨P.pg, 0, none⟩), .pointer (some ⟨P.pa, 0, none⟩), .pointer (some ⟨P.py, 0, none⟩), .pointer (some ⟨P.pq, 0, none⟩)] W fun e w' => e = .returned (.tuple #[]) ∧ FlPost w base P ah (flushM ah Y Q g) w' := by
  unfold flushM
  by_cases h : 0 < g
  · cases ah with
    | true =>
      rw [if_pos ⟨h, rfl⟩, if_neg (by simp), List.append_nil]
      exact flush_a w W base P g vy vq okY okQ Y Q hM hB hZ hY hQl hQ (decide_eq_true h)
    | false =>
      rw [if_neg (by simp), if_pos ⟨h, rfl⟩, List.append_nil]
      exact flush_b w W base P g vy vq okY okQ Y Q hM hB hZ hY hQl hQ (decide_eq_true h)
  · rw [if_neg (fun h2 => h h2.1), if_neg (fun h2 => h h2.1), List.append_nil, List.append_nil]
    exact flush_c w W base P ah g vy vq okY okQ Y Q hM hB hZ hY hQl hQ (decide_eq_false h)
end Go.Proofs.Ytmjeoknamoegpaa.P
