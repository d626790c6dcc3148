-- by hand: the law's known case
import Derived.Test.YtmjeoknamoegpaaIsN
namespace Go.Proofs.Ytmjeoknamoegpaa.P
open Go.RowKit Go.Proofs.YtmjeoknamoegpaaW.PrintWords Go.Proofs.YtmjeoknamoegpaaW.PrintLast Go.Proofs.YtmjeoknamoegpaaW.PrintMore
set_option linter.unusedVariables false
set_option linter.unusedSimpArgs false
theorem C_of_block {α : Type} (d : Kd α) {W : World} {g t : Nat} {f : Nat × Nat} {cs : List Value} (hb : W.heap[g]? = some (.cells cs.toArray t f)) {xs : List α} (hr : Reps (d.K W) d.sz xs cs) (hn : xs.length ≤ 9223372036854775807) : Kd.C d W (some ⟨g, 0, none⟩) xs.length xs := by
  refine ⟨rfl, hn, fun _ => ⟨_, rfl, fun j p hj => ?_⟩⟩
  have hjl : j < xs.length := (List.getElem?_eq_some_iff.1 hj).1
  have hle : j * d.sz + d.sz ≤ cs.length := by rw [hr.1, ← Nat.succ_mul]; exact Nat.mul_le_mul_right _ hjl
  refine ⟨(cs.drop (j * d.sz)).take d.sz, by rw [List.length_take, List.length_drop]; omega, hr.2 j p hj, fun i u hu => ?_⟩
  have hi : i < d.sz := by have := (List.getElem?_eq_some_iff.1 hu).1; rw [List.length_take] at this; omega
  rw [List.getElem?_take_of_lt hi, List.getElem?_drop] at hu
  have ha : (⟨g, 0, none⟩ : Addr).add (j * d.sz + i) = ⟨g, j * d.sz + i, none⟩ := by
    unfold Addr.add
    split
    · rename_i h; rw [h]
    · simp
  rw [ha]
  simp only [World.cell?, hb]
  simpa using hu
def K1 : List S30 := [⟨3, 2, [], [], []⟩, ⟨2, 0, [97], [], []⟩, ⟨2, 0, [98], [], []⟩, ⟨1, 4, [], [], []⟩]
def K2 : List S30 := [⟨2, 0, [97, 98], [], []⟩, ⟨3, 2, [], [], []⟩]
theorem C_ints (W : World) (b : Nat) (cs : List Int) (h : W.heap[b]? = some (.cells (cs.map (Value.int .i32)).toArray 21 (0, 0))) (hn : cs.length ≤ 9223372036854775807) : Kd.C (Kd.int .i32) W (some ⟨b, 0, none⟩) cs.length cs := by
  refine C_of_block (Kd.int .i32) (xs := cs) h ?_ hn
  have : ∀ l : List Int, Reps ((Kd.int .i32).K W) (Kd.int .i32).sz l (l.map (Value.int .i32)) := by
    intro l
    induction l with
    | nil => exact Reps.none _ _
    | cons a l ih => exact Reps.front (c := [Value.int .i32 a]) rfl rfl ih rfl
  exact this cs
theorem known_v1 : normal_Of.f K1 = some K2 := by kernel_rfl
theorem known_v2 : ops_Same.f K2 K2 = some true := by kernel_rfl
theorem known_v3 : normal_Is.f K2 = some true := by kernel_rfl
theorem known_c1 (w : World) : Kd.C k30 (((w.alloc (.cells #[.int .i32 97] 21)).alloc (.cells #[.int .i32 98] 21)).alloc (.cells #[.int .u8 3, .int .i64 2, .slice none 0 0, .slice none 0 0, .slice none 0 0, .int .u8 2, .int .i64 0, .slice (some ⟨w.heap.size, 0, none⟩) 1 1, .slice none 0 0, .slice none 0 0, .int .u8 2, .int .i64 0, .slice (some ⟨w.heap.size + 1, 0, none⟩) 1 1, .slice none 0 0, .slice none 0 0, .int .u8 1, .int .i64 4, .slice none 0 0, .slice none 0 0, .slice none 0 0] 30)) (some ⟨w.heap.size + 1 + 1, 0, none⟩) K1.length K1 := by
  have h1 := heap_alloc_new w (.cells #[.int .i32 97] 21)
  obtain ⟨W1, hW1⟩ : ∃ W1, w.alloc (.cells #[.int .i32 97] 21) = W1 := ⟨_, rfl⟩
  have hs1 : W1.heap.size = w.heap.size + 1 := by rw [← hW1]; simp
  rw [hW1] at h1 ⊢
  have h2 := heap_alloc_new W1 (.cells #[.int .i32 98] 21)
  have b2 := below_alloc (Below.refl W1.heap.size W1) (.cells #[.int .i32 98] 21)
  obtain ⟨W2, hW2⟩ : ∃ W2, W1.alloc (.cells #[.int .i32 98] 21) = W2 := ⟨_, rfl⟩
  have hs2 : W2.heap.size = w.heap.size + 1 + 1 := by rw [← hW2]; simp [hs1]
  rw [hW2] at h2 b2 ⊢
  have h3 := heap_alloc_new W2 (.cells #[.int .u8 3, .int .i64 2, .slice none 0 0, .slice none 0 0, .slice none 0 0, .int .u8 2, .int .i64 0, .slice (some ⟨w.heap.size, 0, none⟩) 1 1, .slice none 0 0, .slice none 0 0, .int .u8 2, .int .i64 0, .slice (some ⟨w.heap.size + 1, 0, none⟩) 1 1, .slice none 0 0, .slice none 0 0, .int .u8 1, .int .i64 4, .slice none 0 0, .slice none 0 0, .slice none 0 0] 30)
  have b3 := below_alloc (Below.refl W2.heap.size W2) (.cells #[.int .u8 3, .int .i64 2, .slice none 0 0, .slice none 0 0, .slice none 0 0, .int .u8 2, .int .i64 0, .slice (some ⟨w.heap.size, 0, none⟩) 1 1, .slice none 0 0, .slice none 0 0, .int .u8 2, .int .i64 0, .slice (some ⟨w.heap.size + 1, 0, none⟩) 1 1, .slice none 0 0, .slice none 0 0, .int .u8 1, .int .i64 4, .slice none 0 0, .slice none 0 0, .slice none 0 0] 30)
  obtain ⟨W3, hW3⟩ : ∃ W3, W2.alloc (.cells #[.int .u8 3, .int .i64 2, .slice none 0 0, .slice none 0 0, .slice none 0 0, .int .u8 2, .int .i64 0, .slice (some ⟨w.heap.size, 0, none⟩) 1 1, .slice none 0 0, .slice none 0 0, .int .u8 2, .int .i64 0, .slice (some ⟨w.heap.size + 1, 0, none⟩) 1 1, .slice none 0 0, .slice none 0 0, .int .u8 1, .int .i64 4, .slice none 0 0, .slice none 0 0, .slice none 0 0] 30) = W3 := ⟨_, rfl⟩
  rw [hW3] at h3 b3 ⊢
  rw [hs1] at h2
  rw [hs2] at h3
  have C1 := C_ints W3 w.heap.size [97] ((b3.block _ (by omega)).trans ((b2.block _ (by omega)).trans h1)) (by decide)
  have C2 := C_ints W3 (w.heap.size + 1) [98] ((b3.block _ (by omega)).trans h2) (by decide)
  exact C_of_block k30 (xs := K1) (cs := [.int .u8 3, .int .i64 2, .slice none 0 0, .slice none 0 0, .slice none 0 0, .int .u8 2, .int .i64 0, .slice (some ⟨w.heap.size, 0, none⟩) 1 1, .slice none 0 0, .slice none 0 0, .int .u8 2, .int .i64 0, .slice (some ⟨w.heap.size + 1, 0, none⟩) 1 1, .slice none 0 0, .slice none 0 0, .int .u8 1, .int .i64 4, .slice none 0 0, .slice none 0 0, .slice none 0 0]) h3
    (Reps.c5 (k30_mk _ ⟨3, 2, [], [], []⟩ (by decide) (Kd.C_nil _ _) (by decide) (Kd.C_nil _ _) (by decide) (Kd.C_nil _ _)) (Reps.c5 (k30_mk _ ⟨2, 0, [97], [], []⟩ (by decide) C1 (by decide) (Kd.C_nil _ _) (by decide) (Kd.C_nil _ _)) (Reps.c5 (k30_mk _ ⟨2, 0, [98], [], []⟩ (by decide) C2 (by decide) (Kd.C_nil _ _) (by decide) (Kd.C_nil _ _)) (Reps.c5 (k30_mk _ ⟨1, 4, [], [], []⟩ (by decide) (Kd.C_nil _ _) (by decide) (Kd.C_nil _ _) (by decide) (Kd.C_nil _ _)) (Reps.none _ _))))) (by decide)
theorem known_c2 (w : World) : Kd.C k30 ((w.alloc (.cells #[.int .i32 97, .int .i32 98] 21)).alloc (.cells #[.int .u8 2, .int .i64 0, .slice (some ⟨w.heap.size, 0, none⟩) 2 2, .slice none 0 0, .slice none 0 0, .int .u8 3, .int .i64 2, .slice none 0 0, .slice none 0 0, .slice none 0 0] 30)) (some ⟨w.heap.size + 1, 0, none⟩) K2.length K2 := by
  have h1 := heap_alloc_new w (.cells #[.int .i32 97, .int .i32 98] 21)
  obtain ⟨W1, hW1⟩ : ∃ W1, w.alloc (.cells #[.int .i32 97, .int .i32 98] 21) = W1 := ⟨_, rfl⟩
  have hs1 : W1.heap.size = w.heap.size + 1 := by rw [← hW1]; simp
  rw [hW1] at h1 ⊢
  have h3 := heap_alloc_new W1 (.cells #[.int .u8 2, .int .i64 0, .slice (some ⟨w.heap.size, 0, none⟩) 2 2, .slice none 0 0, .slice none 0 0, .int .u8 3, .int .i64 2, .slice none 0 0, .slice none 0 0, .slice none 0 0] 30)
  have b3 := below_alloc (Below.refl W1.heap.size W1) (.cells #[.int .u8 2, .int .i64 0, .slice (some ⟨w.heap.size, 0, none⟩) 2 2, .slice none 0 0, .slice none 0 0, .int .u8 3, .int .i64 2, .slice none 0 0, .slice none 0 0, .slice none 0 0] 30)
  obtain ⟨W3, hW3⟩ : ∃ W3, W1.alloc (.cells #[.int .u8 2, .int .i64 0, .slice (some ⟨w.heap.size, 0, none⟩) 2 2, .slice none 0 0, .slice none 0 0, .int .u8 3, .int .i64 2, .slice none 0 0, .slice none 0 0, .slice none 0 0] 30) = W3 := ⟨_, rfl⟩
  rw [hW3] at h3 b3 ⊢
  rw [hs1] at h3
  have C1 := C_ints W3 w.heap.size [97, 98] ((b3.block _ (by omega)).trans h1) (by decide)
  exact C_of_block k30 (xs := K2) (cs := [.int .u8 2, .int .i64 0, .slice (some ⟨w.heap.size, 0, none⟩) 2 2, .slice none 0 0, .slice none 0 0, .int .u8 3, .int .i64 2, .slice none 0 0, .slice none 0 0, .slice none 0 0]) h3
    (Reps.c5 (k30_mk _ ⟨2, 0, [97, 98], [], []⟩ (by decide) C1 (by decide) (Kd.C_nil _ _) (by decide) (Kd.C_nil _ _)) (Reps.c5 (k30_mk _ ⟨3, 2, [], [], []⟩ (by decide) (Kd.C_nil _ _) (by decide) (Kd.C_nil _ _) (by decide) (Kd.C_nil _ _)) (Reps.none _ _))) (by decide)
set_option maxHeartbeats 8000000 in
set_option maxRecDepth 100000 in
theorem known_in (w : World) : Calls Try.prog 9 #[] w fun e w' => e = .returned (.bool true) ∧ Below w.heap.size w w' := by
  go_enter Try.func9, Try.ntmps9
  go_wp2_with fail
  refine (normal_Of.calls _ 4 K1 K2 _ (known_c1 w) (by decide) known_v1).mono ?_
  rintro e w1 ⟨v, rfl, hS, hb⟩
  have HB := Aside0.mk (below_step (below_alloc (below_alloc (below_alloc (Below.refl w.heap.size w) _) _) _) hb)
  obtain ⟨A, c, rfl⟩ := Kd.S_slice hS
  have HS := Aside0.mk hS
  clear hS hb
  go_wp2_with fail
  refine (ops_Same.calls A c K2 _ 2 K2 true _ (Kd.C_below (Kd.S_reads' HS.out).2.2 (below_alloc (below_alloc (Below.refl _ _) _) _)) (Kd.S_reads' HS.out).2.1 (known_c2 w1) (by decide) known_v2).mono ?_
  rintro e w2 ⟨rfl, hb⟩
  have HB2 := Aside0.mk (below_step (below_alloc (below_alloc (Below.refl w1.heap.size w1) _) _) hb)
  clear hb
  go_wp2_with fail
  refine (normal_Is.calls A c K2 true _ (Kd.C_below (Kd.S_reads' HS.out).2.2 HB2.out) (Kd.S_reads' HS.out).2.1 known_v3).mono ?_
  rintro e w3 ⟨rfl, hb⟩
  have HB3 := Aside0.mk (below_step HB.out (below_step HB2.out hb))
  clear hb
  go_wp2_with fail
  go_ret
  exact ⟨rfl, HB3.out⟩
def rubriclaw16_known.f  : Option (Bool) := some true
theorem rubriclaw16_known.calls  (r : Bool) (w : World) (h : rubriclaw16_known.f  = some r) :
    Calls Try.prog 9 #[] w fun e w' => e = .returned (.bool r) ∧ Below w.heap.size w w' := by
  obtain rfl := Option.some.inj h
  exact known_in w
end Go.Proofs.Ytmjeoknamoegpaa.P
