-- several texts in one: MakesA MakesW Op
import Derived.ChangeSame
import Derived.Deep.Fields
import Derived.Deep.Slices
import Derived.OpenShut
import Derived.Test.YtmjeoknamoegpaaRows
import Derived.Test.YtmjeoknamoegpaaZ6
import Derived.Test.YtmjeoknamoegpaaZ8
namespace Go.Proofs.Ytmjeoknamoegpaa.P
open Go.RowKit Go.Proofs.YtmjeoknamoegpaaW.PrintWords Go.Proofs.YtmjeoknamoegpaaW.PrintLast Go.Proofs.YtmjeoknamoegpaaW.PrintMore
set_option linter.unusedVariables false
set_option linter.unusedSimpArgs false
/-! ### no maker -/
theorem nil20 (n : Int) (Ap : Option Addr) (l cp : Nat) (w : World) : Calls Try.prog 20 #[.pointer none, .int .i64 n, .slice Ap l cp] w fun e w' => e = .returned (.tuple #[]) ∧ w = w' := by
 go_enter Try.func20, Try.ntmps20
 go_wp2_with fail
 exact bodyPost_ret (results_none rfl _ _ _) rfl ⟨rfl, rfl⟩
theorem nil21 (Al : Option Addr) (l cl : Nat) (As : Option Addr) (s cs : Nat) (w : World) : Calls Try.prog 21 #[.pointer none, .slice Al l cl, .slice As s cs] w fun e w' => e = .returned (.tuple #[]) ∧ w = w' := by
 go_enter Try.func21, Try.ntmps21
 go_wp2_with fail
 exact bodyPost_ret (results_none rfl _ _ _) rfl ⟨rfl, rfl⟩
theorem nil22 (n : Int) (w : World) : Calls Try.prog 22 #[.pointer none, .int .i64 n] w fun e w' => e = .returned (.tuple #[]) ∧ w = w' := by
 go_enter Try.func22, Try.ntmps22
 go_wp2_with fail
 go_end0
 exact ⟨rfl, rfl⟩
theorem nil23 (w : World) : Calls Try.prog 23 #[.pointer none] w fun e w' => e = .returned (.slice none 0 0) ∧ w = w' := by
 go_enter Try.func23, Try.ntmps23
 go_wp2_with fail
 go_ret
 exact ⟨rfl, rfl⟩
/-! ### two makers -/
/-- Maker p is at s, maker q at t; neither leads to what the other one writes, nor to a block of H. -/
def Two (w wr : World) (p q : Nat) (s t : Stt) (H : Nat → Prop) : Prop :=
 Below w.heap.size w wr ∧ (∀ k, H k → k < wr.heap.size) ∧ ∃ S1 S2 : Nat → Prop, Mk wr w.heap.size S1 p s.1 s.2.1 s.2.2 ∧ Mk wr w.heap.size S2 q t.1 t.2.1 t.2.2 ∧
  (∀ k, S1 k → ¬ S2 k ∧ ¬ H k ∧ k < wr.heap.size) ∧ ∀ k, S2 k → ¬ H k ∧ k < wr.heap.size
theorem Two.swap {w wr : World} {p q : Nat} {s t : Stt} {H : Nat → Prop} (h : Two w wr p q s t H) : Two w wr q p t s H := by
 obtain ⟨a, b, S1, S2, m1, m2, d1, d2⟩ := h
 exact ⟨a, b, S2, S1, m2, m1, fun k hk => ⟨fun h1 => (d1 k h1).1 hk, d2 k hk⟩, fun k hk => (d1 k hk).2⟩
theorem Two.hole {w wr : World} {p q : Nat} {s t : Stt} {H H2 : Nat → Prop} (h : Two w wr p q s t H) (hh : ∀ k, H2 k → H k) : Two w wr p q s t H2 := by
 obtain ⟨a, b, S1, S2, m1, m2, d1, d2⟩ := h
 exact ⟨a, fun k hk => b k (hh k hk), S1, S2, m1, m2, fun k hk => ⟨(d1 k hk).1, fun h2 => (d1 k hk).2.1 (hh k h2), (d1 k hk).2.2⟩, fun k hk => ⟨fun h2 => (d2 k hk).1 (hh k h2), (d2 k hk).2⟩⟩
/-- What is made since may be a hole. -/
theorem Two.fresh {w wr w2 : World} {p q : Nat} {s t : Stt} {H H2 : Nat → Prop} (h : Two w wr p q s t H) (hb : Below wr.heap.size wr w2) (hh : ∀ k, H2 k → wr.heap.size ≤ k ∧ k < w2.heap.size) : Two w w2 p q s t H2 := by
 obtain ⟨a, b, S1, S2, m1, m2, d1, d2⟩ := h
 have hs := hb.size
 exact ⟨below_step a hb, fun k hk => (hh k hk).2, S1, S2, m1.below hb, m2.below hb, fun k hk => ⟨(d1 k hk).1, fun h2 => by have := (hh k h2).1; have := (d1 k hk).2.2; omega, by have := (d1 k hk).2.2; omega⟩, fun k hk => ⟨fun h2 => by have := (hh k h2).1; have := (d2 k hk).2; omega, by have := (d2 k hk).2; omega⟩⟩
/-- The holes are written. -/
theorem Two.wrote {w wr w2 : World} {p q : Nat} {s t : Stt} {H : Nat → Prop} (h : Two w wr p q s t H) (hb : Below w.heap.size wr w2) (hk : ∀ k, k < wr.heap.size → ¬ H k → w2.heap[k]? = wr.heap[k]?) : Two w w2 p q s t (fun _ => False) := by
 obtain ⟨a, b, S1, S2, m1, m2, d1, d2⟩ := h
 exact ⟨a.trans hb, fun k hk => hk.elim, S1, S2, m1.step (fun k h1 h2 => hk k h2 (d1 k h1).2.1), m2.step (fun k h1 h2 => hk k h2 (d2 k h1).1), fun k h1 => ⟨(d1 k h1).1, fun h2 => h2, Nat.lt_of_lt_of_le (d1 k h1).2.2 hb.size⟩, fun k h1 => ⟨fun h2 => h2, Nat.lt_of_lt_of_le (d2 k h1).2 hb.size⟩⟩
theorem Two.call {w wr : World} {p q : Nat} {s t s' : Stt} {H : Nat → Prop} {F : FuncId} {args : Array Value} (h : Two w wr p q s t H)
  (hc : ∀ ok : Nat → Prop, (∀ k, ok k → ¬ H k) → Mk wr w.heap.size ok p s.1 s.2.1 s.2.2 → Calls Try.prog F args wr fun e w' => e = .returned (.tuple #[]) ∧ MkPost wr w.heap.size ok p s'.1 s'.2.1 s'.2.2 w') :
  Calls Try.prog F args wr fun e w' => e = .returned (.tuple #[]) ∧ Two w w' p q s' t H ∧ ∀ k, H k → w'.heap[k]? = wr.heap[k]? := by
 obtain ⟨a, b, S1, S2, m1, m2, d1, d2⟩ := h
 refine (hc S1 (fun k hk => (d1 k hk).2.1) m1).mono ?_
 rintro e w' ⟨rfl, hm, hk, hb⟩
 have hs := hk.1
 refine ⟨rfl, ⟨a.trans hb, fun k h1 => Nat.lt_of_lt_of_le (b k h1) hs, _, S2, hm.bound, m2.step (fun k h1 h2 => hk.2 k h2 (fun h3 => (d1 k h3).1 h1)), fun k h1 => ?_, fun k h1 => ⟨(d2 k h1).1, Nat.lt_of_lt_of_le (d2 k h1).2 hs⟩⟩, fun k h1 => hk.2 k (b k h1) (fun h2 => (d1 k h2).2.1 h1)⟩
 rcases h1 with ⟨h1 | h1, h2⟩
 ·exact ⟨(d1 k h1).1, (d1 k h1).2.1, h2⟩
 ·exact ⟨fun h3 => by have := (d2 k h3).2; omega, fun h3 => by have := b k h3; omega, h2⟩
/-! ### whole numbers written over, in the blocks of P -/
structure SKP (P : Nat → Prop) (W W' : World) : Prop where
 below : Below 0 W W'
 block : ∀ k, ¬ P k → W'.heap[k]? = W.heap[k]?
 int : ∀ p kd x, W.cell? p = some (.int kd x) → ∃ y, W'.cell? p = some (.int kd y)
 rest : ∀ p v, W.cell? p = some v → (∀ kd x, v ≠ .int kd x) → W'.cell? p = some v
 frozen : ∀ p : Addr, W'.frozen? p = W.frozen? p
theorem SKP.refl (P : Nat → Prop) (W : World) : SKP P W W := ⟨Below.refl _ _, fun _ _ => rfl, fun _ _ x h => ⟨x, h⟩, fun _ _ h _ => h, fun _ => rfl⟩
theorem SKP.put {P : Nat → Prop} {W W1 : World} (h : SKP P W W1) {p : Addr} {kd : IntKind} {x : Int} (hp : P p.block) (hc : W1.cell? p = some (.int kd x)) (y : Int) : SKP P W (W1.setCell p (.int kd y)) := by
 refine ⟨h.below.setCell (Nat.zero_le _) _, fun k hk => (Below.heap_setCell W1 p _ k (fun e => hk (e ▸ hp))).trans (h.block k hk), fun q kd2 z hq => ?_, fun q v hq hv => ?_, fun q => by rw [World.frozen?_setCell]; exact h.frozen q⟩
 ·obtain ⟨z2, hz2⟩ := h.int q kd2 z hq
  by_cases e : p = q
  ·subst e
   rw [hc] at hz2
   injection hz2 with hz2
   injection hz2 with e1 _
   subst e1
   exact ⟨y, World.cell?_setCell_same _ _ _ hc⟩
  ·exact ⟨z2, by rw [World.cell?_setCell_other _ _ _ _ e]; exact hz2⟩
 ·have h2 := h.rest q v hq hv
  by_cases e : p = q
  ·subst e
   rw [hc] at h2
   injection h2 with h2
   exact absurd h2.symm (hv kd x)
  ·rw [World.cell?_setCell_other _ _ _ _ e]; exact h2
theorem SKP.up {P : Nat → Prop} {B : Nat} {W W1 : World} (h : SKP P W W1) (hP : ∀ k, P k → B ≤ k) : Below B W W1 := ⟨h.below.os, h.below.tape, h.below.output, h.below.size, fun k hk => h.block k (fun h2 => by have := hP k h2; omega)⟩
/-- A row of n pieces of sz cells each; each begins with a whole number that may be written over. -/
def RowP (W : World) (P : Nat → Prop) (A : Option Addr) (n sz : Nat) (kd : IntKind) : Prop := 0 < n → ∃ g, A = some ⟨g, 0, none⟩ ∧ P g ∧ ∀ j, j < n → ∃ x, W.cell? ⟨g, j * sz, none⟩ = some (.int kd x) ∧ W.frozen? ⟨g, j * sz, none⟩ = false
theorem RowP.of {α : Type} {d : Kd α} {e base : Nat} {ok : Nat → Prop} {w : World} {v : Value} {xs : List α} {kd : IntKind} (h : d.R e w base ok v xs) (z : α) (hM : ∀ x c ok, d.M w base ok x c → ∃ y, c[0]? = some (.int kd y)) : ∃ A c, v = .slice A xs.length c ∧ xs.length ≤ c ∧ RowP w ok A xs.length d.sz kd := by
 obtain ⟨A, c, hv, hc, _⟩ := Kd.R_reads h
 refine ⟨A, c, hv, hc, fun hn => ?_⟩
 obtain ⟨g, c2, hv2, _, _⟩ := Kd.R_form h hn
 rw [hv] at hv2
 injection hv2 with e1 _ e3
 subst e1
 subst hv
 refine ⟨g, rfl, h.1 g (by simp [Value.ownBlock]), fun j hj => ?_⟩
 obtain ⟨cs, _, hm, hcc, hfr⟩ := Kd.R_elem h z (j : Int) (by omega) (by omega)
 obtain ⟨y, hy⟩ := hM _ _ _ hm
 exact ⟨y, hcc 0 _ hy, hfr 0⟩
/-- The rows of an op of one's own: they read, and their numbers may be written over. -/
theorem row2 {w : World} {base : Nat} {ok : Nat → Prop} {v : Value} {xs : List Int} (h : (Kd.int .i32).R 21 w base ok v xs) : ∃ A c, v = .slice A xs.length c ∧ xs.length ≤ c ∧ RowP w ok A xs.length 1 .i32 := RowP.of h 0 (fun x c ok hm => ⟨x, by rw [show c = [.int .i32 x] from hm]; rfl⟩)
theorem row3 {w : World} {base : Nat} {ok : Nat → Prop} {v : Value} {xs : List S40} (h : k40.R 40 w base ok v xs) : ∃ A c, v = .slice A xs.length c ∧ xs.length ≤ c ∧ RowP w ok A xs.length 5 .i64 := RowP.of h z40 (fun x c ok hm => ⟨x.f0, by rw [k40_openM hm]; rfl⟩)
theorem row4 {w : World} {base : Nat} {ok : Nat → Prop} {v : Value} {xs : List S42} (h : k42.R 42 w base ok v xs) : ∃ A c, v = .slice A xs.length c ∧ xs.length ≤ c ∧ RowP w ok A xs.length 6 .i64 := RowP.of h z42 (fun x c ok hm => ⟨x.f0, by rw [k42_openM hm]; rfl⟩)
theorem ret2 (w wr : World) (p q : Nat) (s t : Stt) (H : Nat → Prop) (x : S30) (k : Nat) (hT : Two w wr p q s t H) (hst : StOk s k 100000) (hk : k ≤ 1000) (h1 : x.f0 = 1) (hn : 1 ≤ x.f1) (A4 : Option Addr) (c4 base : Nat) (f4 : k42.R 42 wr base H (.slice A4 x.f4.length c4) x.f4) (hl : x.f4.length ≤ c4) (hx4 : x.f4.length ≤ 100000) :
  Calls Try.prog 20 #[.pointer (some ⟨p, 0, none⟩), .int .i64 x.f1, .slice A4 x.f4.length c4] wr fun e w' => e = .returned (.tuple #[]) ∧ Two w w' p q (stepP s x) t H ∧ ∀ k, H k → w'.heap[k]? = wr.heap[k]? := by
 have hb := hst.1
 have hs : stepP s x = (retainP x.f1 x.f4 s.1 s.2.1 s.2.2, [], 0) := by unfold stepP; rw [if_pos h1, if_neg (by omega)]
 rw [hs]
 exact hT.call (s' := (retainP x.f1 x.f4 s.1 s.2.1 s.2.2, [], 0)) (fun ok hok hM => retain_calls p s.1 s.2.1 s.2.2 w.heap.size ok x.f1 A4 c4 x.f4 wr hM hT.1.size (fun w' hk _ => Kd.C_kept_own f4 (fun k h2 h3 => hok k h3 h2) w' hk) hl hn (by omega) (by omega) (by omega))
theorem ins2 (w wr : World) (p q : Nat) (s t : Stt) (H : Nat → Prop) (x : S30) (k : Nat) (hT : Two w wr p q s t H) (hst : StOk s k 100000) (hk : k ≤ 1000) (h1 : x.f0 = 2) (hn : x.f2 ≠ []) (A2 : Option Addr) (c2 : Nat) (f2 : Kd.C (Kd.int .i32) wr A2 x.f2.length x.f2) (hl2 : x.f2.length ≤ c2) (hx2 : x.f2.length ≤ 100000) (A3 : Option Addr) (c3 : Nat) (f3 : Kd.C k40 wr A3 x.f3.length x.f3) (hl3 : x.f3.length ≤ c3) (hx3 : x.f3.length ≤ 100000) :
  Calls Try.prog 21 #[.pointer (some ⟨p, 0, none⟩), .slice A2 x.f2.length c2, .slice A3 x.f3.length c3] wr fun e w' => e = .returned (.tuple #[]) ∧ Two w w' p q (stepP s x) t H ∧ ∀ k, H k → w'.heap[k]? = wr.heap[k]? := by
 have hb := hst.1
 have hs : stepP s x = (s.1, insertP x.f2 x.f3 s.2.1, s.2.2) := by unfold stepP; rw [if_neg (by omega), if_pos h1, if_neg hn]
 rw [hs]
 exact hT.call (s' := (s.1, insertP x.f2 x.f3 s.2.1, s.2.2)) (fun ok hok hM => insert_calls p s.1 s.2.1 s.2.2 w.heap.size ok A2 c2 x.f2 A3 c3 x.f3 wr hM hT.1.size f2 hl2 f3 hl3 (List.length_pos_iff.2 hn) (by omega) (by omega) (by omega) (fun o ho => Nat.le_trans (hst.2 o (List.mem_append_right _ ho)).1 (by omega)))
theorem del2 (w wr : World) (p q : Nat) (s t : Stt) (H : Nat → Prop) (x : S30) (hT : Two w wr p q s t H) (h1 : x.f0 ≠ 1) (h2 : x.f0 ≠ 2) :
  Calls Try.prog 22 #[.pointer (some ⟨p, 0, none⟩), .int .i64 x.f1] wr fun e w' => e = .returned (.tuple #[]) ∧ Two w w' p q (stepP s x) t H ∧ ∀ k, H k → w'.heap[k]? = wr.heap[k]? := by
 have hs : stepP s x = (s.1, s.2.1, deleteP x.f1 s.2.2) := by unfold stepP; rw [if_neg h1, if_neg h2]
 rw [hs]
 exact hT.call (s' := (s.1, s.2.1, deleteP x.f1 s.2.2)) (fun ok hok hM => delete_calls p x.f1 s.2.2 s.1 s.2.1 w.heap.size ok wr hM)
theorem idle2a (w wr : World) (p q : Nat) (s t : Stt) (H : Nat → Prop) (hT : Two w wr p q s t H) :
  Calls Try.prog 20 #[.pointer (some ⟨p, 0, none⟩), .int .i64 0, .slice none 0 0] wr fun e w' => e = .returned (.tuple #[]) ∧ Two w w' p q s t H ∧ ∀ k, H k → w'.heap[k]? = wr.heap[k]? :=
 hT.call (s' := s) (fun ok hok hM => retain_idle p s.1 s.2.1 s.2.2 w.heap.size ok 0 none 0 0 wr hM (by omega))
theorem idle2b (w wr : World) (p q : Nat) (s t : Stt) (H : Nat → Prop) (hT : Two w wr p q s t H) :
  Calls Try.prog 21 #[.pointer (some ⟨p, 0, none⟩), .slice none 0 0, .slice none 0 0] wr fun e w' => e = .returned (.tuple #[]) ∧ Two w w' p q s t H ∧ ∀ k, H k → w'.heap[k]? = wr.heap[k]? :=
 hT.call (s' := s) (fun ok hok hM => insert_idle p s.1 s.2.1 s.2.2 w.heap.size ok none 0 none 0 0 wr hM)
theorem idle2c (w wr : World) (p q : Nat) (s t : Stt) (H : Nat → Prop) (hT : Two w wr p q s t H) (hg : 0 ≤ s.2.2 ∧ s.2.2 ≤ 4611686018427387904) :
  Calls Try.prog 22 #[.pointer (some ⟨p, 0, none⟩), .int .i64 (-1)] wr fun e w' => e = .returned (.tuple #[]) ∧ Two w w' p q s t H ∧ ∀ k, H k → w'.heap[k]? = wr.heap[k]? := by
 have hd : deleteP (-1) s.2.2 = s.2.2 := by
  unfold deleteP mx
  split
  ·rw [Int.add_zero]; exact w64 _ (by omega)
  ·omega
 refine hT.call (s' := s) (fun ok hok hM => ?_)
 have h := delete_calls p (-1) s.2.2 s.1 s.2.1 w.heap.size ok wr hM
 rw [hd] at h
 exact h
theorem ops2 (w wr : World) (p q : Nat) (s t : Stt) (H : Nat → Prop) (k : Nat) (hT : Two w wr p q s t H) (hst : StOk s k 100000) (hk : k ≤ 1000) :
  Calls Try.prog 23 #[.pointer (some ⟨p, 0, none⟩)] wr fun e w' => ∃ v : Value, e = .returned v ∧ Kd.S k30 30 w' wr.heap.size (fun _ => True) v (opsP s.1 s.2.1 s.2.2) ∧ Below wr.heap.size wr w' := by
 obtain ⟨a, b, S1, S2, m1, m2, d1, d2⟩ := hT
 have hb := hst.1
 exact ops_calls p s.1 s.2.1 s.2.2 w.heap.size S1 wr m1 (by omega) (by omega) (small_of hst (by omega))
theorem Two.new (w w1 : World) (hb : Below w.heap.size w w1) : Two w ((w1.alloc (.cells #[.slice none 0 0, .slice none 0 0, .int .i64 0] 46)).alloc (.cells #[.slice none 0 0, .slice none 0 0, .int .i64 0] 46)) w1.heap.size (w1.heap.size + 1) ([], [], 0) ([], [], 0) (fun _ => False) := by
 have m1 := (Mk_new w1 w.heap.size hb.size).bound
 have hz : ∀ (W : World) (o : Obj), (W.alloc o).heap.size = W.heap.size + 1 := fun W o => Array.size_push _
 have e1 := hz w1 (.cells #[.slice none 0 0, .slice none 0 0, .int .i64 0] 46)
 have m2 := (Mk_new (w1.alloc (.cells #[.slice none 0 0, .slice none 0 0, .int .i64 0] 46)) w.heap.size (by rw [e1]; have := hb.size; omega)).bound
 rw [e1] at m2
 refine ⟨(hb.alloc hb.size _).alloc (by rw [e1]; have := hb.size; omega) _, fun _ h => h.elim, _, _, m1.below (below_alloc (Below.refl _ _) _), m2, fun k hk => ⟨fun h2 => ?_, fun h => h, ?_⟩, fun k hk => ⟨fun h => h, hk.2⟩⟩
 ·rw [e1] at hk; omega
 ·rw [e1] at hk; rw [hz, e1]; omega
end Go.Proofs.Ytmjeoknamoegpaa.P
namespace Go.Proofs.Ytmjeoknamoegpaa.P
open Go.RowKit Go.Proofs.YtmjeoknamoegpaaW.PrintWords Go.Proofs.YtmjeoknamoegpaaW.PrintLast Go.Proofs.YtmjeoknamoegpaaW.PrintMore
set_option linter.unusedVariables false
set_option linter.unusedSimpArgs false
theorem sz_take (l : List S30) (k : Nat) : sz (l.take k) ≤ sz l := by
 have h := congrArg sz (List.take_append_drop k l)
 simp only [sz, List.map_append, List.sum_append] at h ⊢
 omega
set_option maxHeartbeats 16000000 in
set_option maxRecDepth 100000 in
theorem makes6 (A0 : Option Addr) (c0 : Nat) (l0 : List S64) (A1 : Option Addr) (c1 : Nat) (l1 : List S30) (w : World) (hr0 : Kd.C k64 w A0 l0.length l0) (hc0 : l0.length ≤ c0) (hr1 : Kd.C k30 w A1 l1.length l1) (hc1 : l1.length ≤ c1) (hz : sz l1 ≤ 2000000) :
  Calls Try.prog 6 #[.slice A0 l0.length c0, .slice A1 l1.length c1] w fun e w' => e = .returned (.bool true) ∧ Below w.heap.size w w' := by
 have HR0 := Aside0.mk hr0
 have HC0 := Aside0.mk hc0
 have HR1 := Aside0.mk hr1
 have HC1 := Aside0.mk hc1
 have HZ := Aside0.mk hz
 clear hr0 hc0 hr1 hc1 hz
 go_enter Try.func6, Try.ntmps6
 go_wp2_with fail
 refine (tame8 A0 c0 l0 A1 c1 l1 w HR0.out HC0.out HR1.out HC1.out HZ.out).mono ?_
 rintro e w1 ⟨⟨r, rfl, ht⟩, hb⟩
 have HB1 := Aside0.mk hb
 have HTT := Aside0.mk ht
 clear hb ht
 cases r with
 | false =>
  clear HTT
  go_wp2_with fail
  refine (rubriclaw16_known.calls true w1 rfl).mono ?_
  rintro e w3 ⟨rfl, hb⟩
  have HB3 := Aside0.mk (below_step HB1.out hb)
  clear hb
  go_wp2_with fail
  go_ret
  exact ⟨rfl, HB3.out⟩
 | true =>
  obtain ⟨hs, ho⟩ := HTT.out rfl
  have HS := Aside0.mk hs
  have HO := Aside0.mk ho
  clear hs ho HTT
  by_cases h60 : (l1.length : Int) > 60
  ·go_wp2_with fail
   refine (rubriclaw16_known.calls true w1 rfl).mono ?_
   rintro e w3 ⟨rfl, hb⟩
   have HB3 := Aside0.mk (below_step HB1.out hb)
   clear hb
   go_wp2_with fail
   go_ret
   exact ⟨rfl, HB3.out⟩
  ·go_wp2_with fail
   refine (new_calls w1).mono ?_
   rintro e w2 ⟨rfl, rfl⟩
   have HT := Aside0.mk (Two.new w w1 HB1.out)
   go_wp2_with fail
   obtain ⟨p, hp⟩ : ∃ p, w1.heap.size = p := ⟨_, rfl⟩
   rw [hp] at HT ⊢
   obtain ⟨q, hq⟩ : ∃ q, p + 1 = q := ⟨_, rfl⟩
   rw [hq] at HT ⊢
   clear hp hq
   generalize World.alloc _ _ = w2 at HT ⊢
   go_loopw [31] (fun t wr => ∃ k : Nat, k ≤ l1.length ∧ t = .int .i64 k ∧ Aside0 (Two w wr p q (foldP (l1.take k)) (foldP (l1.take k)) (fun _ => False))) (fun t _ => l1.length - (intOf t).toNat)
   case atStart => exact ⟨0, Nat.zero_le _, rfl, HT⟩
   case round =>
    clear HT HB1
    obtain ⟨k, hk, rfl, HT⟩ := hrel
    by_cases hlt : k < l1.length
    ·obtain ⟨x, hx⟩ : ∃ x, l1[k]? = some x := ⟨_, List.getElem?_eq_getElem hlt⟩
     have hki : (k : Int) < (l1.length : Int) := by omega
     have q0 : (0 : Int) ≤ (k : Int) := Int.natCast_nonneg k
     have hcc : k < c1 := by have := HC1.out; omega
     have hcf : ¬ c1 = k := by omega
     have HSEG := Aside0.mk (seg_C (lo := k) (hi := k + 1) HR1.out (by omega) (by omega) HC1.out)
     have hone : (l1.take (k + 1)).drop k = [x] := by
      rw [List.take_add_one, hx, List.drop_append_of_le_length (by rw [List.length_take]; omega), List.drop_of_length_le (by rw [List.length_take]; omega)]; rfl
     rw [hone, if_neg hcf] at HSEG
     obtain ⟨ad, _, _, _, _, _, _, eA, _⟩ := (at_T30 HR1.out (k : Int) (by omega) (by omega))
     subst eA
     replace HSEG : Aside0 (k30.C w (some (ad.add (k * 5))) [x].length [x]) := HSEG
     have HX := Aside0.mk hx
     clear hx hone
     go_wp2_with fail
     have hxo : OkO x := HO.out x (List.mem_of_getElem? HX.out)
     have hx3 := (small_sz HS.out).2.2 x (List.mem_of_getElem? HX.out)
     have hx2 : x.f2.length ≤ 20000 := by have h1 := (small_sz HS.out).2.1; have h2 : x.f2.length ≤ tot l1 := le_sum_mem (List.mem_map.2 ⟨x, List.mem_of_getElem? HX.out, rfl⟩); omega
     have HXO := Aside0.mk hxo
     have HX3 := Aside0.mk (And.intro hx2 hx3)
     clear hxo hx3 hx2
     refine (refCopy_calls (some (ad.add (k * 5))) (c1 - k) [x] wr (Kd.C_below HSEG.out HT.out.1) (by simp only [List.length_singleton]; omega) (by simp) (fun y hy => by rw [List.mem_singleton.1 hy]; have := HX3.out; omega)).mono ?_
     rintro e w3 ⟨v3, rfl, hS, hb⟩
     obtain ⟨g, cap, rfl, _, _, _⟩ := Kd.S_form hS (by simp)
     obtain ⟨oki, cs, hcl, hM, hcl2, _, _, _⟩ := Kd.S_elem hS z30 (0 : Int) (by omega) (by simp)
     have hM2 : k30.M w3 wr.heap.size (fun j => wr.heap.size ≤ j ∧ j < w3.heap.size) x cs := k30.M_mono (fun j hj => ⟨hj.2.1, hj.2.2.1⟩) (k30.M_bound (show k30.M w3 wr.heap.size oki x cs from hM))
     obtain ⟨u2, u3, u4, rfl, r2, r3, r4⟩ := k30_openM hM2
     obtain ⟨A2, c2, rfl, l2, p2⟩ := row2 r2
     obtain ⟨A3, c3, rfl, l3, p3⟩ := row3 r3
     obtain ⟨A4, c4, rfl, l4, p4⟩ := row4 r4
     have e0 : w3.cell? ⟨g, 0, none⟩ = some (.int .u8 x.f0) := hcl2 0 _ rfl
     have e1 : w3.cell? ⟨g, 1, none⟩ = some (.int .i64 x.f1) := hcl2 1 _ rfl
     have e2 : w3.cell? ⟨g, 2, none⟩ = some (.slice A2 x.f2.length c2) := hcl2 2 _ rfl
     have e3 : w3.cell? ⟨g, 3, none⟩ = some (.slice A3 x.f3.length c3) := hcl2 3 _ rfl
     have e4 : w3.cell? ⟨g, 4, none⟩ = some (.slice A4 x.f4.length c4) := hcl2 4 _ rfl
     have HB3 := Aside0.mk hb
     have R2 := Aside0.mk r2
     have R3 := Aside0.mk r3
     have R4 := Aside0.mk r4
     have LL := Aside0.mk (And.intro l2 (And.intro l3 l4))
     clear hS hcl hM hcl2 hM2 hb r2 r3 r4 p2 p3 p4 l2 l3 l4 HSEG
     go_upto_region 10 with (fail)
     have hbx := heap_alloc_new w3 (.cells #[.int .u8 x.f0, .int .i64 x.f1, .slice A2 x.f2.length c2, .slice A3 x.f3.length c3, .slice A4 x.f4.length c4] 30)
     have hba := below_alloc (Below.refl w3.heap.size w3) (.cells #[.int .u8 x.f0, .int .i64 x.f1, .slice A2 x.f2.length c2, .slice A3 x.f3.length c3, .slice A4 x.f4.length c4] 30)
     have hsz : (w3.alloc (.cells #[.int .u8 x.f0, .int .i64 x.f1, .slice A2 x.f2.length c2, .slice A3 x.f3.length c3, .slice A4 x.f4.length c4] 30)).heap.size = w3.heap.size + 1 := Array.size_push _
     generalize World.alloc _ _ = w4 at hbx hba hsz ⊢
     obtain ⟨bx, hbe⟩ : ∃ b, w3.heap.size = b := ⟨_, rfl⟩
     rw [hbe] at hbx hsz ⊢
     obtain ⟨H, hH⟩ : ∃ H : Nat → Prop, H = fun j => wr.heap.size ≤ j ∧ j < w4.heap.size := ⟨_, rfl⟩
     have HHb : Aside0 (H bx) := ⟨by rw [hH]; have := HB3.out.size; exact ⟨by omega, by omega⟩⟩
     have HHo : Aside0 (∀ j, wr.heap.size ≤ j ∧ j < w3.heap.size → H j) := ⟨fun j hj => by rw [hH]; exact ⟨hj.1, by omega⟩⟩
     have HHl : Aside0 (∀ j, H j → w.heap.size ≤ j) := ⟨fun j hj => by rw [hH] at hj; have := HT.out.1.size; omega⟩
     have HT4 : Aside0 (Two w w4 p q (foldP (l1.take k)) (foldP (l1.take k)) H) := ⟨HT.out.fresh (below_step HB3.out hba) (fun j hj => by rw [hH] at hj; exact hj)⟩
     replace R2 := Aside0.mk (Kd.R_mono (Kd.R_below R2.out hba) HHo.out)
     replace R3 := Aside0.mk (Kd.R_mono (Kd.R_below R3.out hba) HHo.out)
     replace R4 := Aside0.mk (Kd.R_mono (Kd.R_below R4.out hba) HHo.out)
     have BX := Aside0.mk hbx
     have HST : Aside0 (foldP (l1.take (k + 1)) = stepP (foldP (l1.take k)) x) := ⟨foldP_succ l1 k x HX.out⟩
     have HSO : Aside0 (StOk (foldP (l1.take k)) k 100000) := ⟨by
      have h1 := StOk.fold0 (l1.take k) (fun y hy => by have := (small_sz HS.out).2.2 y (List.mem_of_mem_take hy); omega)
      rw [List.length_take, Nat.min_eq_left hk] at h1
      have h2 := tot_take l1 k
      have h3 := (small_sz HS.out).2.1
      exact ⟨h1.1, fun y hy => ⟨by have := (h1.2 y hy).1; omega, (h1.2 y hy).2⟩⟩⟩
     clear hbx hba hsz hbe hH e0 e1 e2 e3 e4 HT HB3 HHo
     have b0 : w4.cell? ⟨bx, 0, none⟩ = some (.int .u8 x.f0) := (blk_cell BX.out 0).trans rfl
     go_upto_block 2 with (fail)
     clear b0
     go_cut [55] (fun v wc => ∃ v2 : Value, v = v2 ∧ Aside0 (Two w wc p q (foldP (l1.take (k + 1))) (foldP (l1.take (k + 1))) (fun _ => False)))
     case first =>
      rcases HXO.out with ⟨h0, _, _, hn1, _⟩ | ⟨h0, _, _, _, _, _⟩ | ⟨h0, _, _, hne⟩
      ·have hb1 : (x.f0 == 1) = true := beq_iff_eq.2 h0
       have b1 : w4.cell? ⟨bx, 1, none⟩ = some (.int .i64 x.f1) := (blk_cell BX.out 1).trans rfl
       have b4 : w4.cell? ⟨bx, 4, none⟩ = some (.slice A4 x.f4.length c4) := (blk_cell BX.out 4).trans rfl
       have H0 := Aside0.mk h0
       have HN1 := Aside0.mk hn1
       have hn4 : x.f4.length ≤ 20000 := by have := HX3.out; omega
       clear h0 hn1
       go_wp2_with fail
       refine (ret2 w w4 p q _ _ H x k HT4.out HSO.out (by omega) H0.out HN1.out A4 c4 _ R4.out LL.out.2.2 (by omega)).mono ?_
       rintro e w5 ⟨rfl, ht5, hh5⟩
       have HT5 := Aside0.mk ht5
       have BX5 := Aside0.mk ((hh5 bx HHb.out).trans BX.out)
       have R5 := Aside0.mk (Kd.R_step R4.out (fun j hj _ => hh5 j hj))
       clear ht5 hh5 b1 b4
       have b1 : w5.cell? ⟨bx, 1, none⟩ = some (.int .i64 x.f1) := (blk_cell BX5.out 1).trans rfl
       have b4 : w5.cell? ⟨bx, 4, none⟩ = some (.slice A4 x.f4.length c4) := (blk_cell BX5.out 4).trans rfl
       go_wp2_with fail
       refine (ret2 w w5 q p _ _ H x k HT5.out.swap HSO.out (by omega) H0.out HN1.out A4 c4 _ R5.out LL.out.2.2 (by omega)).mono ?_
       rintro e w6 ⟨rfl, ht6, hh6⟩
       have HT6 := Aside0.mk ht6.swap
       have BX6 := Aside0.mk ((hh6 bx HHb.out).trans BX5.out)
       have R6 := Aside0.mk (Kd.R_step R5.out (fun j hj _ => hh6 j hj))
       clear ht6 hh6 b1 b4
       have b1 : w6.cell? ⟨bx, 1, none⟩ = some (.int .i64 x.f1) := (blk_cell BX6.out 1).trans rfl
       have b4 : w6.cell? ⟨bx, 4, none⟩ = some (.slice A4 x.f4.length c4) := (blk_cell BX6.out 4).trans rfl
       go_wp2_with fail
       refine (nil20 x.f1 A4 x.f4.length c4 w6).mono ?_
       rintro e w7 ⟨rfl, rfl⟩
       obtain ⟨A4b, c4b, hv4, _, p4⟩ := row4 R6.out
       injection hv4 with e1 _ e3
       subst e1
       subst e3
       have P4 := Aside0.mk p4
       have HTZ : Aside0 (Two w w6 p q (foldP (l1.take (k + 1))) (foldP (l1.take (k + 1))) H) := ⟨by rw [HST.out]; exact HT6.out⟩
       clear p4 HT4 HT5 HT6 BX BX5 R4 R5
       generalize x.f4.length = n4 at b4 P4 hn4 ⊢
       have B4 := Aside0.mk b4
       go_wp2_with fail
       have HSK : Aside0 (SKP H w6 w6) := ⟨SKP.refl _ _⟩
       go_loopw [77] (fun t wr => ∃ j : Nat, j ≤ n4 ∧ t = .int .i64 j ∧ Aside0 (SKP H w6 wr)) (fun t _ => n4 - (intOf t).toNat)
       case atStart => exact ⟨0, Nat.zero_le _, rfl, HSK⟩
       case round =>
        clear HSK
        obtain ⟨j, hj, rfl, HSK⟩ := hrel
        by_cases hlt : j < n4
        ·obtain ⟨gi, hgi, hgb, hcj⟩ := P4.out (by omega)
         obtain ⟨y0, hx, hf⟩ := hcj j hlt
         have hf2 := (HSK.out.frozen _).trans hf
         obtain ⟨y, hy⟩ := HSK.out.int _ _ _ hx
         have f2 := HSK.out.rest _ _ B4.out (fun _ _ h => by cases h)
         rw [hgi] at f2
         have hji : (j : Int) < (n4 : Int) := by omega
         have q1 : (0 : Int) ≤ (j : Int) := Int.natCast_nonneg j
         skip
         have HX1 := Aside0.mk hy
         have HGB := Aside0.mk hgb
         clear hx hf hcj hgb hgi
         go_wp2_with fail
         go_roundw
         case rel => exact ⟨j + 1, by omega, by go_num, ⟨SKP.put HSK.out HGB.out HX1.out _⟩⟩
         case measure => simp [intOf]; omega
        ·obtain rfl : j = n4 := by omega
         have b4 := HSK.out.rest _ _ B4.out (fun _ _ h => by cases h)
         have HTW : Aside0 (Two w _ p q (foldP (l1.take (k + 1))) (foldP (l1.take (k + 1))) (fun _ => False)) := ⟨HTZ.out.wrote (HSK.out.up HHl.out) (fun j _ hj => HSK.out.block j hj)⟩
         go_wp2_with fail
         go_meet
         case rel => exact ⟨_, rfl, HTW⟩
      ·have hb1 : (x.f0 == 1) = false := beq_eq_false_iff_ne.2 (by omega)
       have hb2 : (x.f0 == 2) = false := beq_eq_false_iff_ne.2 (by omega)
       have b1 : w4.cell? ⟨bx, 1, none⟩ = some (.int .i64 x.f1) := (blk_cell BX.out 1).trans rfl
       have H0 := Aside0.mk h0
       clear h0
       go_wp2_with fail
       refine (del2 w w4 p q _ _ H x HT4.out (by have := H0.out; omega) (by have := H0.out; omega)).mono ?_
       rintro e w5 ⟨rfl, ht5, hh5⟩
       have HT5 := Aside0.mk ht5
       have BX5 := Aside0.mk ((hh5 bx HHb.out).trans BX.out)
       clear ht5 hh5 b1
       have b1 : w5.cell? ⟨bx, 1, none⟩ = some (.int .i64 x.f1) := (blk_cell BX5.out 1).trans rfl
       go_wp2_with fail
       refine (del2 w w5 q p _ _ H x HT5.out.swap (by have := H0.out; omega) (by have := H0.out; omega)).mono ?_
       rintro e w6 ⟨rfl, ht6, hh6⟩
       have HT6 := Aside0.mk ht6.swap
       have BX6 := Aside0.mk ((hh6 bx HHb.out).trans BX5.out)
       clear ht6 hh6 b1
       have b1 : w6.cell? ⟨bx, 1, none⟩ = some (.int .i64 x.f1) := (blk_cell BX6.out 1).trans rfl
       go_wp2_with fail
       refine (nil22 x.f1 w6).mono ?_
       rintro e w7 ⟨rfl, rfl⟩
       have HTW : Aside0 (Two w w6 p q (foldP (l1.take (k + 1))) (foldP (l1.take (k + 1))) (fun _ => False)) := ⟨by rw [HST.out]; exact HT6.out.hole (fun _ h => h.elim)⟩
       clear HT4 HT5 HT6 BX BX5 BX6 b1
       go_wp2_with fail
       go_meet
       case rel => exact ⟨_, rfl, HTW⟩
      ·have hb1 : (x.f0 == 1) = false := beq_eq_false_iff_ne.2 (by omega)
       have hb2 : (x.f0 == 2) = true := beq_iff_eq.2 h0
       have b2 : w4.cell? ⟨bx, 2, none⟩ = some (.slice A2 x.f2.length c2) := (blk_cell BX.out 2).trans rfl
       have b3 : w4.cell? ⟨bx, 3, none⟩ = some (.slice A3 x.f3.length c3) := (blk_cell BX.out 3).trans rfl
       have H0 := Aside0.mk h0
       have HNE := Aside0.mk hne
       have hn2 : x.f2.length ≤ 20000 := by have := HX3.out; omega
       have hn3 : x.f3.length ≤ 20000 := by have := HX3.out; omega
       clear h0 hne
       go_wp2_with fail
       refine (ins2 w w4 p q _ _ H x k HT4.out HSO.out (by omega) H0.out HNE.out A2 c2 (Kd.R_reads' R2.out).2.2 LL.out.1 (by omega) A3 c3 (Kd.R_reads' R3.out).2.2 LL.out.2.1 (by omega)).mono ?_
       rintro e w5 ⟨rfl, ht5, hh5⟩
       have HT5 := Aside0.mk ht5
       have BX5 := Aside0.mk ((hh5 bx HHb.out).trans BX.out)
       have R25 := Aside0.mk (Kd.R_step R2.out (fun j hj _ => hh5 j hj))
       have R35 := Aside0.mk (Kd.R_step R3.out (fun j hj _ => hh5 j hj))
       clear ht5 hh5 b2 b3
       have b2 : w5.cell? ⟨bx, 2, none⟩ = some (.slice A2 x.f2.length c2) := (blk_cell BX5.out 2).trans rfl
       have b3 : w5.cell? ⟨bx, 3, none⟩ = some (.slice A3 x.f3.length c3) := (blk_cell BX5.out 3).trans rfl
       go_wp2_with fail
       refine (ins2 w w5 q p _ _ H x k HT5.out.swap HSO.out (by omega) H0.out HNE.out A2 c2 (Kd.R_reads' R25.out).2.2 LL.out.1 (by omega) A3 c3 (Kd.R_reads' R35.out).2.2 LL.out.2.1 (by omega)).mono ?_
       rintro e w6 ⟨rfl, ht6, hh6⟩
       have HT6 := Aside0.mk ht6.swap
       have BX6 := Aside0.mk ((hh6 bx HHb.out).trans BX5.out)
       have R26 := Aside0.mk (Kd.R_step R25.out (fun j hj _ => hh6 j hj))
       have R36 := Aside0.mk (Kd.R_step R35.out (fun j hj _ => hh6 j hj))
       clear ht6 hh6 b2 b3
       have b2 : w6.cell? ⟨bx, 2, none⟩ = some (.slice A2 x.f2.length c2) := (blk_cell BX6.out 2).trans rfl
       have b3 : w6.cell? ⟨bx, 3, none⟩ = some (.slice A3 x.f3.length c3) := (blk_cell BX6.out 3).trans rfl
       go_wp2_with fail
       refine (nil21 A2 x.f2.length c2 A3 x.f3.length c3 w6).mono ?_
       rintro e w7 ⟨rfl, rfl⟩
       obtain ⟨A2b, c2b, hv2, _, p2⟩ := row2 R26.out
       injection hv2 with e1 _ e3
       subst e1
       subst e3
       obtain ⟨A3b, c3b, hv3, _, p3⟩ := row3 R36.out
       injection hv3 with e1 _ e3
       subst e1
       subst e3
       have P2 := Aside0.mk p2
       have P3 := Aside0.mk p3
       have HTZ : Aside0 (Two w w6 p q (foldP (l1.take (k + 1))) (foldP (l1.take (k + 1))) H) := ⟨by rw [HST.out]; exact HT6.out⟩
       clear p2 p3 HT4 HT5 HT6 BX BX5 R2 R3 R25 R35 R26 R36
       generalize x.f2.length = n2 at b2 P2 hn2 ⊢
       generalize x.f3.length = n3 at b3 P3 hn3 ⊢
       have B2 := Aside0.mk b2
       have B3 := Aside0.mk b3
       go_wp2_with fail
       have HSK : Aside0 (SKP H w6 w6) := ⟨SKP.refl _ _⟩
       go_loopw [108] (fun t wr => ∃ j : Nat, j ≤ n2 ∧ t = .int .i64 j ∧ Aside0 (SKP H w6 wr)) (fun t _ => n2 - (intOf t).toNat)
       case atStart => exact ⟨0, Nat.zero_le _, rfl, HSK⟩
       case round =>
        clear HSK
        obtain ⟨j, hj, rfl, HSK⟩ := hrel
        by_cases hlt : j < n2
        ·obtain ⟨gi, hgi, hgb, hcj⟩ := P2.out (by omega)
         obtain ⟨y0, hx, hf⟩ := hcj j hlt
         have hf2 := (HSK.out.frozen _).trans hf
         obtain ⟨y, hy⟩ := HSK.out.int _ _ _ hx
         have f2 := HSK.out.rest _ _ B2.out (fun _ _ h => by cases h)
         rw [hgi] at f2
         have hji : (j : Int) < (n2 : Int) := by omega
         have q1 : (0 : Int) ≤ (j : Int) := Int.natCast_nonneg j
         rw [Nat.mul_one] at hy hf2
         have HX1 := Aside0.mk hy
         have HGB := Aside0.mk hgb
         clear hx hf hcj hgb hgi
         go_wp2_with fail
         go_roundw
         case rel => exact ⟨j + 1, by omega, by go_num, ⟨SKP.put HSK.out HGB.out HX1.out _⟩⟩
         case measure => simp [intOf]; omega
        ·obtain rfl : j = n2 := by omega
         clear b2 b3
         have b3 := HSK.out.rest _ _ B3.out (fun _ _ h => by cases h)
         go_wp2_with fail
         go_loopw [119] (fun t wr => ∃ j : Nat, j ≤ n3 ∧ t = .int .i64 j ∧ Aside0 (SKP H w6 wr)) (fun t _ => n3 - (intOf t).toNat)
         case atStart => exact ⟨0, Nat.zero_le _, rfl, HSK⟩
         case round =>
          clear HSK
          obtain ⟨j, hj, rfl, HSK⟩ := hrel
          by_cases hlt : j < n3
          ·obtain ⟨gi, hgi, hgb, hcj⟩ := P3.out (by omega)
           obtain ⟨y0, hx, hf⟩ := hcj j hlt
           have hf2 := (HSK.out.frozen _).trans hf
           obtain ⟨y, hy⟩ := HSK.out.int _ _ _ hx
           have f2 := HSK.out.rest _ _ B3.out (fun _ _ h => by cases h)
           rw [hgi] at f2
           have hji : (j : Int) < (n3 : Int) := by omega
           have q1 : (0 : Int) ≤ (j : Int) := Int.natCast_nonneg j
           skip
           have HX1 := Aside0.mk hy
           have HGB := Aside0.mk hgb
           clear hx hf hcj hgb hgi
           go_wp2_with fail
           go_roundw
           case rel => exact ⟨j + 1, by omega, by go_num, ⟨SKP.put HSK.out HGB.out HX1.out _⟩⟩
           case measure => simp [intOf]; omega
          ·obtain rfl : j = n3 := by omega
           have HTW : Aside0 (Two w _ p q (foldP (l1.take (k + 1))) (foldP (l1.take (k + 1))) (fun _ => False)) := ⟨HTZ.out.wrote (HSK.out.up HHl.out) (fun j _ hj => HSK.out.block j hj)⟩
           go_wp2_with fail
           go_meet
           case rel => exact ⟨_, rfl, HTW⟩
     case rest =>
      obtain ⟨_, rfl, HT5⟩ := hcut
      clear HT4 R2 R3 R4 BX HHb HHl HST HSO LL
      obtain ⟨s, hs⟩ : ∃ s, foldP (l1.take (k + 1)) = s := ⟨_, rfl⟩
      have HTK : Aside0 ((l1.take (k + 1)).length = k + 1 ∧ sz (l1.take (k + 1)) ≤ 20000 ∧ ∀ o ∈ l1.take (k + 1), OkO o) := ⟨by rw [List.length_take]; omega, Nat.le_trans (sz_take l1 (k + 1)) HS.out, fun o ho => HO.out o (List.mem_of_mem_take ho)⟩
      have HSO : Aside0 (StOk s (k + 1) 100000) := ⟨by
       have h1 := StOk.fold0 (l1.take (k + 1)) (fun y hy => by have := (small_sz HS.out).2.2 y (List.mem_of_mem_take hy); omega)
       rw [HTK.out.1, hs] at h1
       have h2 := tot_take l1 (k + 1)
       have h3 := (small_sz HS.out).2.1
       exact ⟨h1.1, fun y hy => ⟨by have := (h1.2 y hy).1; omega, (h1.2 y hy).2⟩⟩⟩
      have HG0 : Aside0 (0 ≤ s.2.2 ∧ s.2.2 ≤ 4611686018427387904) := ⟨by
       have h1 := NS.of (l1.take (k + 1)) HTK.out.2.2 (by rw [HTK.out.1]; omega)
       rw [hs, HTK.out.1] at h1
       exact ⟨h1.2.2.1.1, by have h2 := h1.2.2.1.2; have h3 : ((k + 1 : Nat) : Int) ≤ 61 := (by omega); omega⟩⟩
      obtain ⟨L, hL⟩ : ∃ L, ofP (l1.take (k + 1)) = L := ⟨_, rfl⟩
      have HLO : Aside0 (opsP s.1 s.2.1 s.2.2 = L) := ⟨by rw [← hs]; exact hL⟩
      have HLL : Aside0 (L.length ≤ 20000 ∧ tot L ≤ 20000 ∧ ∀ o ∈ L, o.f3.length ≤ 20000 ∧ o.f4.length ≤ 20000) := ⟨by rw [← hL]; exact form_small HTK.out.2.1 HTK.out.2.2⟩
      have HOL := Aside0.mk hL
      rw [hs] at HT5
      have HSS := Aside0.mk hs
      clear hs hL
      go_wp2_with fail
      refine (idle2a w wc p q s s _ HT5.out).mono ?_
      rintro e w6 ⟨rfl, ht, _⟩
      have HT6 := Aside0.mk ht
      clear ht HT5
      go_wp2_with fail
      refine (idle2b w w6 p q s s _ HT6.out).mono ?_
      rintro e w7 ⟨rfl, ht, _⟩
      have HT7 := Aside0.mk ht
      clear ht HT6
      go_wp2_with fail
      refine (idle2c w w7 p q s s _ HT7.out HG0.out).mono ?_
      rintro e w8 ⟨rfl, ht, _⟩
      have HT8 := Aside0.mk ht
      clear ht HT7
      go_wp2_with fail
      refine (ops2 w w8 p q s s _ (k + 1) HT8.out HSO.out (by omega)).mono ?_
      rintro e w9 ⟨v, rfl, hS, hb⟩
      rw [HLO.out] at hS
      obtain ⟨AG, cG, rfl⟩ := Kd.S_slice hS
      have HS9 := Aside0.mk hS
      have B9 := Aside0.mk hb
      clear hS hb
      have HCT : Aside0 (k + 1 ≤ c1) := ⟨by omega⟩
      have hk1 : k + 1 ≤ l1.length := hlt
      have hk1i : (k : Int) + 1 ≤ (l1.length : Int) := by omega
      have hk1c : (k : Int) + 1 ≤ (c1 : Int) := by omega
      go_wp2_with fail
      have hOf := refOf_calls (some ad) c1 (l1.take (k + 1)) w9 (Kd.C_below (Kd.C_take HR1.out hk1) (below_step HT8.out.1 B9.out)) (by rw [HTK.out.1]; omega) HTK.out.2.1 HTK.out.2.2
      rw [HTK.out.1, HOL.out] at hOf
      refine hOf.mono ?_
      clear hOf
      rintro e w10 ⟨v4, rfl, hS, hb⟩
      obtain ⟨AH, cH, rfl⟩ := Kd.S_slice hS
      have HS10 := Aside0.mk hS
      have B9b := Aside0.mk hb
      have B10 := Aside0.mk (below_step B9.out hb)
      clear hS hb
      go_wp2_with fail
      refine (refSame_calls AG cG L AH cH L w10 (Kd.C_below (Kd.S_reads' HS9.out).2.2 B9b.out) (Kd.S_reads' HS9.out).2.1 (Kd.S_reads' HS10.out).2.2 (Kd.S_reads' HS10.out).2.1 (by have := HLL.out.1; omega)).mono ?_
      rintro e w11 ⟨rfl, hb⟩
      have B9c := Aside0.mk (below_step B9b.out hb)
      have B11 := Aside0.mk (below_step B10.out hb)
      clear hb
      rw [eqB_true.2 rfl]
      go_wp2_with fail
      refine (ops2 w w11 q p s s (fun _ => False) (k + 1) (HT8.out.fresh B11.out (fun _ h => h.elim)).swap HSO.out (by omega)).mono ?_
      rintro e w12 ⟨v5, rfl, hS, hb⟩
      rw [HLO.out] at hS
      obtain ⟨AZ, cZ, rfl⟩ := Kd.S_slice hS
      have HS12 := Aside0.mk hS
      have B9d := Aside0.mk (below_step B9c.out hb)
      have B12 := Aside0.mk (below_step B11.out hb)
      clear hS hb
      go_wp2_with fail
      refine (refSame_calls AZ cZ L AG cG L w12 (Kd.S_reads' HS12.out).2.2 (Kd.S_reads' HS12.out).2.1 (Kd.C_below (Kd.S_reads' HS9.out).2.2 B9d.out) (Kd.S_reads' HS9.out).2.1 (by have := HLL.out.1; omega)).mono ?_
      rintro e W0 ⟨rfl, hb⟩
      have B9e := Aside0.mk (below_step B9d.out hb)
      have B8 := Aside0.mk (below_step B12.out hb)
      clear hb
      rw [eqB_true.2 rfl]
      go_wp2_with fail
      refine (nil23 W0).mono ?_
      rintro e w14 ⟨rfl, rfl⟩
      have HG := Aside0.mk (Kd.S_below HS9.out B9e.out)
      clear HS10 HS12 HS9 B9 B9b B9c B9d B9e B10 B11 B12
      obtain ⟨N2, hN2⟩ : ∃ n, w8.heap.size = n := ⟨_, rfl⟩
      rw [hN2] at HG
      have HN2 := Aside0.mk hN2
      replace B8 : Aside0 (Below N2 w8 W0) := ⟨by rw [← hN2]; exact B8.out⟩
      replace HT8 : Aside0 (∀ W, Below N2 w8 W → Two w W p q s s (fun _ => False)) := ⟨fun W hW => HT8.out.fresh (by rw [hN2]; exact hW) (fun _ h => h.elim)⟩
      clear hN2
      go_wp2_with fail
      go_loopw [158] (fun t wr => ∃ i : Nat, i ≤ L.length ∧ t = .int .i64 i ∧ Aside0 (SK N2 W0 wr)) (fun t _ => L.length - (intOf t).toNat)
      case atStart => exact ⟨0, Nat.zero_le _, rfl, ⟨SK.refl _ _⟩⟩
      case round =>
       obtain ⟨i, hi, rfl, HSK⟩ := hrel
       by_cases hlt : i < L.length
       ·obtain ⟨g, cap, hv, hgb, _⟩ := Kd.S_form HG.out (by omega)
        injection hv with e1 _ e3
        subst e1
        subst e3
        obtain ⟨o, n2, n3, n4, R2, d2, R3, d3, R4, d4, ho, e2, e3, e4, l2, l3, l4, _, f1, z1, f2, f3, f4, r2, r3, r4⟩ := got_row HG.out i hlt
        have F1 := Aside0.mk f1
        have Z1 := Aside0.mk z1
        have F2 := Aside0.mk f2
        have F3 := Aside0.mk f3
        have F4 := Aside0.mk f4
        have RI2 := Aside0.mk r2
        have RI3 := Aside0.mk r3
        have RI4 := Aside0.mk r4
        have GB := Aside0.mk hgb
        have hii : (i : Int) < (L.length : Int) := by omega
        have qi : (0 : Int) ≤ (i : Int) := Int.natCast_nonneg i
        have hlb : L.length ≤ 20000 := HLL.out.1
        have hn2 : n2 ≤ 20000 := by have := le_sum_mem (List.mem_map.2 ⟨o, List.mem_of_getElem? ho, rfl⟩ : o.f2.length ∈ L.map fun o => o.f2.length); have h_ := HLL.out.2.1; unfold tot at h_; omega
        have hn3 : n3 ≤ 20000 := by have := (HLL.out.2.2 o (List.mem_of_getElem? ho)).1; omega
        have hn4 : n4 ≤ 20000 := by have := (HLL.out.2.2 o (List.mem_of_getElem? ho)).2; omega
        clear e2 e3 e4 ho f1 z1 f2 f3 f4 r2 r3 r4 hgb
        have f2 := HSK.out.rest _ _ F2.out (fun _ _ h => by cases h)
        go_wp2_with fail
        go_loopw [167] (fun t wr => ∃ j : Nat, j ≤ n2 ∧ t = .int .i64 j ∧ Aside0 (SK N2 W0 wr)) (fun t _ => n2 - (intOf t).toNat)
        case atStart => exact ⟨0, Nat.zero_le _, rfl, HSK⟩
        case round =>
         clear HSK
         obtain ⟨j, hj, rfl, HSK⟩ := hrel
         by_cases hlt : j < n2
         ·obtain ⟨gi, hgi, hgb, hcj⟩ := RI2.out (by omega)
          obtain ⟨x0, hx, hf⟩ := hcj j hlt
          have hf2 := (HSK.out.frozen _ (World.block_lt_of_cell? _ _ hx)).trans hf
          obtain ⟨y, hy⟩ := HSK.out.int _ _ _ hx
          have f2 := HSK.out.rest _ _ F2.out (fun _ _ h => by cases h)
          rw [hgi] at f2
          have hji : (j : Int) < (n2 : Int) := by omega
          have q1 : (0 : Int) ≤ (j : Int) := Int.natCast_nonneg j
          rw [Nat.mul_one] at hy hf2
          have HX1 := Aside0.mk hy
          have HGB := Aside0.mk hgb
          clear hx hf hcj hgb hgi
          go_wp2_with fail
          go_roundw
          case rel => exact ⟨j + 1, by omega, by go_num, ⟨SK.put HSK.out HGB.out HX1.out _⟩⟩
          case measure => simp [intOf]; omega
         ·obtain rfl : j = n2 := by omega
          have f4 := HSK.out.rest _ _ F4.out (fun _ _ h => by cases h)
          go_wp2_with fail
          go_loopw [187] (fun t wr => ∃ j : Nat, j ≤ n4 ∧ t = .int .i64 j ∧ Aside0 (SK N2 W0 wr)) (fun t _ => n4 - (intOf t).toNat)
          case atStart => exact ⟨0, Nat.zero_le _, rfl, HSK⟩
          case round =>
           clear HSK
           obtain ⟨j, hj, rfl, HSK⟩ := hrel
           by_cases hlt : j < n4
           ·obtain ⟨gi, hgi, hgb, hcj⟩ := RI4.out (by omega)
            obtain ⟨x0, hx, hf⟩ := hcj j hlt
            have hf2 := (HSK.out.frozen _ (World.block_lt_of_cell? _ _ hx)).trans hf
            obtain ⟨y, hy⟩ := HSK.out.int _ _ _ hx
            have f2 := HSK.out.rest _ _ F4.out (fun _ _ h => by cases h)
            rw [hgi] at f2
            have hji : (j : Int) < (n4 : Int) := by omega
            have q1 : (0 : Int) ≤ (j : Int) := Int.natCast_nonneg j
            skip
            have HX1 := Aside0.mk hy
            have HGB := Aside0.mk hgb
            clear hx hf hcj hgb hgi
            go_wp2_with fail
            go_roundw
            case rel => exact ⟨j + 1, by omega, by go_num, ⟨SK.put HSK.out HGB.out HX1.out _⟩⟩
            case measure => simp [intOf]; omega
           ·obtain rfl : j = n4 := by omega
            have f3 := HSK.out.rest _ _ F3.out (fun _ _ h => by cases h)
            go_wp2_with fail
            go_loopw [209] (fun t wr => ∃ j : Nat, j ≤ n3 ∧ t = .int .i64 j ∧ Aside0 (SK N2 W0 wr)) (fun t _ => n3 - (intOf t).toNat)
            case atStart => exact ⟨0, Nat.zero_le _, rfl, HSK⟩
            case round =>
             clear HSK
             obtain ⟨j, hj, rfl, HSK⟩ := hrel
             by_cases hlt : j < n3
             ·obtain ⟨gi, hgi, hgb, hcj⟩ := RI3.out (by omega)
              obtain ⟨x0, hx, hf⟩ := hcj j hlt
              have hf2 := (HSK.out.frozen _ (World.block_lt_of_cell? _ _ hx)).trans hf
              obtain ⟨y, hy⟩ := HSK.out.int _ _ _ hx
              have f2 := HSK.out.rest _ _ F3.out (fun _ _ h => by cases h)
              rw [hgi] at f2
              have hji : (j : Int) < (n3 : Int) := by omega
              have q1 : (0 : Int) ≤ (j : Int) := Int.natCast_nonneg j
              skip
              have HX1 := Aside0.mk hy
              have HGB := Aside0.mk hgb
              clear hx hf hcj hgb hgi
              go_wp2_with fail
              go_roundw
              case rel => exact ⟨j + 1, by omega, by go_num, ⟨SK.put HSK.out HGB.out HX1.out _⟩⟩
              case measure => simp [intOf]; omega
             ·obtain rfl : j = n3 := by omega
              obtain ⟨y1, hy1⟩ := HSK.out.int _ _ _ F1.out
              have hf1 := (HSK.out.frozen _ (World.block_lt_of_cell? _ _ F1.out)).trans Z1.out
              have HY1 := Aside0.mk hy1
              go_wp2_with fail
              go_roundw
              case rel => exact ⟨i + 1, by omega, by go_num, ⟨SK.put HSK.out GB.out HY1.out _⟩⟩
              case measure => simp [intOf]; omega
       ·obtain rfl : i = L.length := by omega
        go_wp2_with fail
        go_roundw
        case rel => exact ⟨k + 1, by omega, by go_num, ⟨by rw [HSS.out]; exact HT8.out _ (B8.out.trans HSK.out.below)⟩⟩
        case measure => simp [intOf]; omega
    ·obtain rfl : k = l1.length := by omega
     rw [List.take_length] at HT
     have HSO : Aside0 (StOk (foldP l1) l1.length 100000) := ⟨by
      have h1 := StOk.fold0 l1 (fun y hy => by have := (small_sz HS.out).2.2 y hy; omega)
      have h3 := (small_sz HS.out).2.1
      exact ⟨h1.1, fun y hy => ⟨by have := (h1.2 y hy).1; omega, (h1.2 y hy).2⟩⟩⟩
     have HLL := Aside0.mk (form_small HS.out HO.out)
     go_wp2_with fail
     refine (ops2 w wr p q _ _ _ l1.length HT.out HSO.out (by omega)).mono ?_
     rintro e w9 ⟨v, rfl, hS, hb⟩
     replace hS : Kd.S k30 30 w9 wr.heap.size (fun _ => True) v (ofP l1) := hS
     obtain ⟨AG, cG, rfl⟩ := Kd.S_slice hS
     have HS9 := Aside0.mk hS
     have B9 := Aside0.mk (below_step HT.out.1 hb)
     clear hS hb
     go_wp2_with fail
     refine (refOf_calls A1 c1 l1 w9 (Kd.C_below HR1.out B9.out) HC1.out HS.out HO.out).mono ?_
     rintro e w10 ⟨v4, rfl, hS, hb⟩
     obtain ⟨AH, cH, rfl⟩ := Kd.S_slice hS
     have HS10 := Aside0.mk hS
     have B9b := Aside0.mk hb
     have B10 := Aside0.mk (below_step B9.out hb)
     clear hS hb
     go_wp2_with fail
     refine (refSame_calls AG cG (ofP l1) AH cH (ofP l1) w10 (Kd.C_below (Kd.S_reads' HS9.out).2.2 B9b.out) (Kd.S_reads' HS9.out).2.1 (Kd.S_reads' HS10.out).2.2 (Kd.S_reads' HS10.out).2.1 (by have := HLL.out.1; omega)).mono ?_
     rintro e w11 ⟨rfl, hb⟩
     have B11 := Aside0.mk (below_step B10.out hb)
     clear hb
     rw [eqB_true.2 rfl]
     go_wp2_with fail
     refine (rubriclaw16_known.calls true w11 rfl).mono ?_
     rintro e w12 ⟨rfl, hb⟩
     have B12 := Aside0.mk (below_step B11.out hb)
     clear hb
     go_wp2_with fail
     go_ret
     exact ⟨rfl, B12.out⟩
end Go.Proofs.Ytmjeoknamoegpaa.P
namespace Go.Proofs.Ytmjeoknamoegpaa.bulks
theorem one_le {H : Type} (d : DataW H) : 1 ≤ Rows.uptoBulk d := by
 cases d with
 | lit l => cases l <;> simp [Rows.uptoBulk]
 | nil => simp [Rows.uptoBulk]
 | ptr d => simp [Rows.uptoBulk]
 | slice elems spare => simp [Rows.uptoBulk]
 | agg parts => simp [Rows.uptoBulk]
 | iface t d => simp [Rows.uptoBulk]
 | map entries => simp [Rows.uptoBulk]
 | held h => simp [Rows.uptoBulk]
theorem append {H : Type} (l r : List (DataW H)) : Rows.uptoBulkAll (l ++ r) = Rows.uptoBulkAll l + Rows.uptoBulkAll r := by
 induction l with
 | nil => simp [Rows.uptoBulkAll]
 | cons x l ih => simp only [List.cons_append, Rows.uptoBulkAll, ih]; omega
/-- a string's letters -/
theorem string_eq {H : Type} (bytes : List UInt8) : Rows.uptoBulk (DataW.lit (H := H) (.string bytes)) = bytes.length + 1 := by
 simp [Rows.uptoBulk]
/-- THE BOUND, as the builder hands it over ('hk') -/
theorem bound {H : Type} {l : List (DataW H)} (hk : Rows.uptoSmall H l = true) : Rows.uptoBulkAll l ≤ 1048576 := by
 simpa [Rows.uptoSmall] using hk
end Go.Proofs.Ytmjeoknamoegpaa.bulks
namespace Go.Proofs.Ytmjeoknamoegpaa.P
open Go.RowKit Go.ChangeShapes Go.WideShapes Go.Deep Go.Proofs.YtmjeoknamoegpaaW.PrintWords Go.Proofs.YtmjeoknamoegpaaW.PrintLast Go.Proofs.YtmjeoknamoegpaaW.PrintMore
set_option linter.unusedVariables false
section
variable {H : Type} {enc : TypeId × Value → H} {w : World} {base : Nat} {spare : Nat → Bool} {held : Bool}
def Opens (H : Type) (enc : TypeId × Value → H) (w : World) (base : Nat) (spare : Nat → Bool) (held : Bool) {α : Type} (t : TypeId) (d : Kd α) (wt : α → Nat) : Prop :=
 ∀ (fuel : Nat) (cs : List Value) (x : DataW H × List MemPlace), DataW.trod enc Try.prog w base spare held fuel t cs = some x → ∃ y : α, d.K w y cs ∧ wt y + 1 ≤ Rows.uptoBulk x.1
theorem opens_int {t : TypeId} {k : IntKind} (ht : Try.prog.underlying t = some (.int k)) : Opens H enc w base spare held t (Kd.int k) (fun _ => 0) := by
 intro fuel cs x h
 obtain ⟨n, rfl, _, _⟩ := DataW.trod_int ht h
 exact ⟨n, rfl, by have := bulks.one_le x.1; omega⟩
theorem opens_bool {t : TypeId} (ht : Try.prog.underlying t = some .bool) : Opens H enc w base spare held t Kd.bool (fun _ => 0) := by
 intro fuel cs x h
 obtain ⟨n, rfl, _⟩ := DataW.trod_bool ht h
 exact ⟨n, rfl, by have := bulks.one_le x.1; omega⟩
theorem opens_string {t : TypeId} (ht : Try.prog.underlying t = some .string) : Opens H enc w base spare held t Kd.string (fun s => s.size) := by
 intro fuel cs x h
 obtain ⟨s, rfl, rfl, _⟩ := DataW.trod_string ht h
 refine ⟨s, rfl, ?_⟩
 rw [bulks.string_eq, Array.length_toList]
 exact Nat.le_refl _
theorem sum_bulk {g : Nat → Nat} {D : Nat → DataW H} : ∀ L : List Nat, (∀ i ∈ L, g i ≤ Rows.uptoBulk (D i)) → (L.map g).sum ≤ Rows.uptoBulkAll (L.map D)
 | [], _ => by simp
 | i :: L, h => by
  have h1 := h i (by simp)
  have h2 := sum_bulk L (fun j hj => h j (by simp [hj]))
  simp only [List.map_cons, List.sum_cons, Rows.uptoBulkAll]
  omega
theorem opens_slice {α : Type} [Inhabited α] {t e : TypeId} {d : Kd α} {wt : α → Nat} (ht : Try.prog.underlying t = some (.slice e)) (hsz : Try.prog.cellsOf e = d.sz) (he : Opens H enc w base spare held e d wt) : Opens H enc w base spare held t (Kd.slice e d) (fun l => (l.map fun y => wt y + 1).sum) := by
 intro fuel cs x h
 rcases open_slice ht h with ⟨rfl, _⟩ | ⟨a, len, cap, m, n, D, Pl, rfl, hb, hl, hm, hmm, hx, hi⟩
 ·exact ⟨[], ⟨none, 0, rfl, by simp, Kd.C_nil _ _⟩, by have := bulks.one_le x.1; simp; omega⟩
 ·have hlm : len ≤ m := by rw [hmm]; split <;> omega
  have h1 : ∀ i : Nat, ∃ y : α × List Value, i < len → (d.K w y.1 y.2 ∧ y.2.length = d.sz ∧ ∀ j u, y.2[j]? = some u → w.cell? (a.add (i * d.sz + j)) = some u) ∧ wt y.1 + 1 ≤ Rows.uptoBulk (D i) := by
   intro i
   by_cases hil : i < len
   ·obtain ⟨cs', hc, ht'⟩ := hi i (by omega)
    obtain ⟨y, hy, hyw⟩ := he _ _ _ ht'
    obtain ⟨_, hcl, hat⟩ := World.cells?_some hc
    rw [hsz] at hcl hat
    refine ⟨(y, cs'), fun _ => ⟨⟨hy, hcl, fun j u hu => ?_⟩, hyw⟩⟩
    have hj : j < d.sz := by have := (List.getElem?_eq_some_iff.1 hu).1; dsimp only at this; omega
    rw [← Go.Deep.add_add, hat j hj]; exact hu
   ·exact ⟨(default, []), fun hh => absurd hh hil⟩
  obtain ⟨f, hf⟩ := Classical.skolem.1 h1
  refine ⟨(List.range len).map fun i => (f i).1, ⟨some a, cap, by simp, by simpa using hl, by simp, ?_, fun hp => ⟨a, rfl, fun j p hj => ?_⟩⟩, ?_⟩
  ·simp only [List.length_map, List.length_range]
   have : maxLen ≤ 9223372036854775807 := by decide
   omega
  ·rw [List.getElem?_map] at hj
   obtain ⟨j', hj', rfl⟩ := Option.map_eq_some_iff.1 hj
   obtain ⟨hlt, he'⟩ := List.getElem?_eq_some_iff.1 hj'
   rw [List.getElem_range] at he'
   subst he'
   rw [List.length_range] at hlt
   obtain ⟨⟨k1, k2, k3⟩, _⟩ := hf j hlt
   exact ⟨(f j).2, k2, k1, k3⟩
  ·have h2 := sum_bulk (g := fun i => wt (f i).1 + 1) (D := D) (List.range len) (fun i hi => (hf i (List.mem_range.1 hi)).2)
   rw [hx]
   simp only [Rows.uptoBulk, List.map_map]
   have e : (List.map ((fun y => wt y + 1) ∘ fun i => (f i).1) (List.range len)) = (List.range len).map (fun i => wt (f i).1 + 1) := rfl
   rw [e]
   omega
theorem opens_iso {α β : Type} {t : TypeId} {d : Kd α} {wt : α → Nat} (f : β → α) (g : α → β) (hfg : ∀ x, f (g x) = x) (h : Opens H enc w base spare held t d wt) : Opens H enc w base spare held t (Kd.iso d f) (fun b => wt (f b)) := by
 intro fuel cs x hx
 obtain ⟨y, hy, hw⟩ := h fuel cs x hx
 exact ⟨g y, by show d.K w (f (g y)) cs; rw [hfg]; exact hy, by simp only [hfg]; exact hw⟩
/-- From the i-th field on. -/
def Tl {α : Type} (w : World) (xs : List (DataW H × List MemPlace)) (cs : List Value) (i off : Nat) (d : Kd α) (wt : α → Nat) : Prop := ∃ y : α, d.K w y (cs.drop off) ∧ wt y ≤ Rows.uptoBulkAll ((xs.drop i).map (·.1))
theorem tl_one {α : Type} {a : Kd α} {wa : α → Nat} {xs : List (DataW H × List MemPlace)} {cs : List Value} {n i off : Nat} {t : TypeId} (ha : Opens H enc w base spare held t a wa) (hi : i < xs.length) (hc : Try.prog.cellsOf t = a.sz)
  (ht : DataW.trod enc Try.prog w base spare held n t ((cs.drop off).take (Try.prog.cellsOf t)) = xs[i]?) : ∃ y : α, a.K w y ((cs.drop off).take a.sz) ∧ wa y + Rows.uptoBulkAll ((xs.drop (i + 1)).map (·.1)) ≤ Rows.uptoBulkAll ((xs.drop i).map (·.1)) := by
 rw [List.getElem?_eq_getElem hi, hc] at ht
 obtain ⟨y, hy, hw⟩ := ha _ _ _ ht
 refine ⟨y, hy, ?_⟩
 rw [List.drop_eq_getElem_cons hi]
 simp only [List.map_cons, Rows.uptoBulkAll]
 omega
theorem tl_last {α : Type} {a : Kd α} {wa : α → Nat} {xs : List (DataW H × List MemPlace)} {cs : List Value} {n i off : Nat} {t : TypeId} (ha : Opens H enc w base spare held t a wa) (hi : xs.length = i + 1) (hc : Try.prog.cellsOf t = a.sz) (hl : cs.length = off + a.sz)
  (ht : DataW.trod enc Try.prog w base spare held n t ((cs.drop off).take (Try.prog.cellsOf t)) = xs[i]?) : Tl w xs cs i off a wa := by
 obtain ⟨y, hy, hw⟩ := tl_one ha (by omega) hc ht
 rw [List.take_of_length_le (by rw [List.length_drop]; omega)] at hy
 exact ⟨y, hy, by omega⟩
theorem tl_cons {α β : Type} {a : Kd α} {b : Kd β} {wa : α → Nat} {wb : β → Nat} {xs : List (DataW H × List MemPlace)} {cs : List Value} {n i off : Nat} {t : TypeId} (ha : Opens H enc w base spare held t a wa) (hi : i < xs.length) (hc : Try.prog.cellsOf t = a.sz)
  (ht : DataW.trod enc Try.prog w base spare held n t ((cs.drop off).take (Try.prog.cellsOf t)) = xs[i]?) (h : Tl w xs cs (i + 1) (off + a.sz) b wb) : Tl w xs cs i off (Kd.pair a b) (fun p => wa p.1 + wb p.2) := by
 obtain ⟨y, hy, hw⟩ := tl_one ha hi hc ht
 obtain ⟨z, hz, hw2⟩ := h
 refine ⟨(y, z), ⟨_, _, ?_, hy, hz⟩, by simp only; omega⟩
 rw [← List.drop_drop, List.take_append_drop]
theorem opens_struct {α : Type} {t : TypeId} {fs : Array Field} {d : Kd α} {wt : α → Nat} (ht : Try.prog.underlying t = some (.struct fs))
  (h : ∀ (n : Nat) (cs : List Value) (xs : List (DataW H × List MemPlace)), cs.length = Try.prog.cellsOf t → xs.length = fs.size → (∀ (i : Nat) (f : Field), fs[i]? = some f → DataW.trod enc Try.prog w base spare held n f.type ((cs.drop f.offset).take (Try.prog.cellsOf f.type)) = xs[i]?) → Tl w xs cs 0 0 d wt) :
  Opens H enc w base spare held t d wt := by
 intro fuel cs x hx
 obtain ⟨xs, n, _, rfl, hlen, hxl, hf⟩ := DataW.trod_struct ht hx
 obtain ⟨y, hy, hw⟩ := h n cs xs hlen hxl hf
 rw [List.drop_zero] at hy
 refine ⟨y, hy, ?_⟩
 rw [List.drop_zero] at hw
 simp only [Rows.uptoBulk]
 omega
instance : Inhabited S38 := ⟨z38⟩
instance : Inhabited S40 := ⟨z40⟩
instance : Inhabited S42 := ⟨z42⟩
instance : Inhabited S30 := ⟨z30⟩
instance : Inhabited S64 := ⟨z64⟩
theorem opens38 : Opens H enc w base spare held 38 k38 (fun x => x.f3.size) := by
 have h : Opens H enc w base spare held 38 k38 _ := opens_iso (fun x : S38 => (x.f0, x.f1, x.f2, x.f3)) (fun p => ⟨p.1, p.2.1, p.2.2.1, p.2.2.2⟩) (fun _ => rfl) (opens_struct Try.underlying38 (fun n cs xs hl hx hf => by
  have c : Try.prog.cellsOf 38 = 4 := by kernel_rfl
  rw [c] at hl
  exact tl_cons (opens_int (by kernel_rfl)) (by rw [hx]; decide) (by kernel_rfl) (hf 0 _ rfl) (tl_cons (opens_int (by kernel_rfl)) (by rw [hx]; decide) (by kernel_rfl) (hf 1 _ rfl) (tl_cons (opens_int (by kernel_rfl)) (by rw [hx]; decide) (by kernel_rfl) (hf 2 _ rfl) (tl_last (opens_string (by kernel_rfl)) hx (by kernel_rfl) hl (hf 3 _ rfl))))))
 intro fuel cs x hx
 obtain ⟨y, hy, hw⟩ := h fuel cs x hx
 exact ⟨y, hy, by dsimp only at hw ⊢; omega⟩
theorem opens40 : Opens H enc w base spare held 40 k40 (fun x => x.f1.f3.size) := by
 have h : Opens H enc w base spare held 40 k40 _ := opens_iso (fun x : S40 => (x.f0, x.f1)) (fun p => ⟨p.1, p.2⟩) (fun _ => rfl) (opens_struct Try.underlying40 (fun n cs xs hl hx hf => by
  have c : Try.prog.cellsOf 40 = 5 := by kernel_rfl
  rw [c] at hl
  exact tl_cons (opens_int (by kernel_rfl)) (by rw [hx]; decide) (by kernel_rfl) (hf 0 _ rfl) (tl_last opens38 hx (by kernel_rfl) hl (hf 1 _ rfl))))
 intro fuel cs x hx
 obtain ⟨y, hy, hw⟩ := h fuel cs x hx
 exact ⟨y, hy, by dsimp only at hw ⊢; omega⟩
theorem opens42 : Opens H enc w base spare held 42 k42 (fun x => x.f2.f3.size) := by
 have h : Opens H enc w base spare held 42 k42 _ := opens_iso (fun x : S42 => (x.f0, x.f1, x.f2)) (fun p => ⟨p.1, p.2.1, p.2.2⟩) (fun _ => rfl) (opens_struct Try.underlying42 (fun n cs xs hl hx hf => by
  have c : Try.prog.cellsOf 42 = 6 := by kernel_rfl
  rw [c] at hl
  exact tl_cons (opens_int (by kernel_rfl)) (by rw [hx]; decide) (by kernel_rfl) (hf 0 _ rfl) (tl_cons (opens_bool (by kernel_rfl)) (by rw [hx]; decide) (by kernel_rfl) (hf 1 _ rfl) (tl_last opens38 hx (by kernel_rfl) hl (hf 2 _ rfl)))))
 intro fuel cs x hx
 obtain ⟨y, hy, hw⟩ := h fuel cs x hx
 exact ⟨y, hy, by dsimp only at hw ⊢; omega⟩
theorem opens64 : Opens H enc w base spare held 64 k64 (fun x => 0) := by
 have h : Opens H enc w base spare held 64 k64 _ := opens_iso (fun x : S64 => (x.f0, x.f1, x.f2, x.f3, x.f4, x.f5)) (fun p => ⟨p.1, p.2.1, p.2.2.1, p.2.2.2.1, p.2.2.2.2.1, p.2.2.2.2.2⟩) (fun _ => rfl) (opens_struct Try.underlying64 (fun n cs xs hl hx hf => by
  have c : Try.prog.cellsOf 64 = 6 := by kernel_rfl
  rw [c] at hl
  exact tl_cons (opens_int (by kernel_rfl)) (by rw [hx]; decide) (by kernel_rfl) (hf 0 _ rfl) (tl_cons (opens_bool (by kernel_rfl)) (by rw [hx]; decide) (by kernel_rfl) (hf 1 _ rfl) (tl_cons (opens_int (by kernel_rfl)) (by rw [hx]; decide) (by kernel_rfl) (hf 2 _ rfl) (tl_cons (opens_bool (by kernel_rfl)) (by rw [hx]; decide) (by kernel_rfl) (hf 3 _ rfl) (tl_cons (opens_bool (by kernel_rfl)) (by rw [hx]; decide) (by kernel_rfl) (hf 4 _ rfl) (tl_last (opens_int (by kernel_rfl)) hx (by kernel_rfl) hl (hf 5 _ rfl))))))))
 intro fuel cs x hx
 obtain ⟨y, hy, hw⟩ := h fuel cs x hx
 exact ⟨y, hy, by dsimp only at hw ⊢; omega⟩
theorem wt_ints (l : List Int) : (l.map fun y => 0 + 1).sum = l.length := by induction l with | nil => rfl | cons a l ih => simp only [List.map_cons, List.sum_cons, List.length_cons] at ih ⊢; omega
theorem wt_A (l : List S40) : (l.map fun y => y.f1.f3.size + 1).sum = l.length + strA l := by
 induction l with
 | nil => rfl
 | cons a l ih => rw [strA_cons]; simp only [List.map_cons, List.sum_cons, List.length_cons] at ih ⊢; omega
theorem wt_C (l : List S42) : (l.map fun y => y.f2.f3.size + 1).sum = l.length + strC l := by
 induction l with
 | nil => rfl
 | cons a l ih => rw [strC_cons]; simp only [List.map_cons, List.sum_cons, List.length_cons] at ih ⊢; omega
theorem opens30 : Opens H enc w base spare held 30 k30 (fun x => x.f2.length + (x.f3.length + strA x.f3) + (x.f4.length + strC x.f4)) := by
 have h : Opens H enc w base spare held 30 k30 _ := opens_iso (fun x : S30 => (x.f0, x.f1, x.f2, x.f3, x.f4)) (fun p => ⟨p.1, p.2.1, p.2.2.1, p.2.2.2.1, p.2.2.2.2⟩) (fun _ => rfl) (opens_struct Try.underlying30 (fun n cs xs hl hx hf => by
  have c : Try.prog.cellsOf 30 = 5 := by kernel_rfl
  rw [c] at hl
  exact tl_cons (opens_int (by kernel_rfl)) (by rw [hx]; decide) (by kernel_rfl) (hf 0 _ rfl) (tl_cons (opens_int (by kernel_rfl)) (by rw [hx]; decide) (by kernel_rfl) (hf 1 _ rfl) (tl_cons (opens_slice (by kernel_rfl) (by kernel_rfl) (opens_int (by kernel_rfl))) (by rw [hx]; decide) (by kernel_rfl) (hf 2 _ rfl) (tl_cons (opens_slice (by kernel_rfl) (by kernel_rfl) opens40) (by rw [hx]; decide) (by kernel_rfl) (hf 3 _ rfl) (tl_last (opens_slice (by kernel_rfl) (by kernel_rfl) opens42) hx (by kernel_rfl) hl (hf 4 _ rfl)))))))
 intro fuel cs x hx
 obtain ⟨y, hy, hw⟩ := h fuel cs x hx
 refine ⟨y, hy, ?_⟩
 simp only [wt_A, wt_C] at hw
 rw [wt_ints] at hw
 dsimp only at hw ⊢
 omega
theorem wt_O (l : List S30) : (l.map fun x => x.f2.length + (x.f3.length + strA x.f3) + (x.f4.length + strC x.f4) + 1).sum = sz l := by
 induction l with
 | nil => rfl
 | cons a l ih => rw [sz_cons]; simp only [List.map_cons, List.sum_cons] at ih ⊢; unfold szO; omega
end
end Go.Proofs.Ytmjeoknamoegpaa.P
