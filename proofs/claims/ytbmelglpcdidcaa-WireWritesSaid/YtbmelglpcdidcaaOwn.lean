/- The call 'own' (what was made stays when what it was made behind is written over), by a walk of its own: for a row with room for one more. -/
import Derived.Test.YtbmelglpcdidcaaPx0
import Derived.Laws.CopyOwn
namespace Go.Proofs.Ytbmelglpcdidcaa.P
open Go.RowKit Go.Proofs.YtbmelglpcdidcaaW.PrintWords Go.Proofs.YtbmelglpcdidcaaW.PrintLast Go.Proofs.YtbmelglpcdidcaaW.PrintMore
set_option linter.unusedVariables false
set_option linter.unusedSimpArgs false

theorem gb_trans {a b c : World} {r : Option Nat} (h : a.grownBy b r) (k : b.grownBy c r) : a.grownBy c r :=
  ⟨k.os.trans h.os, k.tape.trans h.tape, k.output.trans h.output, Nat.le_trans h.size k.size, fun i hi hne => (k.block i (Nat.lt_of_lt_of_le hi h.size) hne).trans (h.block i hi hne)⟩
theorem gb_drewN {a w : World} {r : Option Nat} (h : a.grownBy w r) (n : Nat) : a.grownBy (w.drewN n) r := ⟨h.os, h.tape, h.output, h.size, h.block⟩
theorem gb_alloc {a w : World} {r : Option Nat} (h : a.grownBy w r) (o : Obj) : a.grownBy (w.alloc o) r := gb_trans h (World.grownBy_alloc w o r)
theorem own_prefix {w : World} {base e g n cap : Nat} {xs : List Value} {x : Value} (h : w.ownsRow base e 1 (.slice (some ⟨g, 0, none⟩) (n + 1) cap) (n + 1) (xs ++ [x])) : w.ownsRow base e 1 (.slice (some ⟨g, 0, none⟩) n cap) n xs := by
  obtain ⟨h1, h2⟩ := h
  have hl : xs.length = n := by simpa using h1
  refine ⟨by omega, .inr ?_⟩
  rcases h2 with ⟨h2, _⟩ | ⟨g', cap', cur, hv, hb, hh, hn, hm, hs, ht⟩
  · cases h2
  · injection hv with hv1 hv2 hv3
    injection hv1 with hv1
    injection hv1 with hv1
    subst hv1 hv3
    refine ⟨g, cap, cur, rfl, hb, hh, by omega, hm, hs, ?_⟩
    have := congrArg (List.take n) ht
    rw [List.take_take, Nat.mul_one, Nat.min_eq_left (by omega)] at this
    rw [Nat.mul_one, this, ← hl, List.take_left]

theorem take_last (L : List Int) (k : Nat) (h : L.length = k + 1) : L = L.take k ++ [L.getD k 0] := by
  have h2 := List.take_succ_eq_append_getElem (l := L) (i := k) (by omega)
  rw [← h, List.take_length] at h2
  rw [List.getD_eq_getElem?_getD, List.getElem?_eq_getElem (by omega)]
  exact h2
set_option maxHeartbeats 4000000 in
theorem own_block (g n cap : Nat) (B : Nat) (xs : List Int) (hn : xs.length = n) (hn2 : n ≤ 140737488355328) (hroom : n + 1 ≤ cap) (A1 : Option Addr) (c1 : Nat) (l1 : List Int) (w : World)
    (ho : w.ownsRow B 5 1 (.slice (some ⟨g, 0, none⟩) n cap) n (nums .u8 xs)) (hr1 : ∀ W_, w.grownBy W_ (some g) → Kd.C (Kd.int .u8) W_ A1 l1.length l1) :
    Calls Try.prog 16 #[.slice (some ⟨g, 0, none⟩) n cap, .slice A1 l1.length c1] w fun e w' => e = .returned (.bool true) ∧ w.grownBy w' (some g) ∧ ∃ ys : List Int, ys.length = n ∧ w'.ownsRow B 5 1 (.slice (some ⟨g, 0, none⟩) n cap) n (nums .u8 ys) := by
  obtain ⟨i5, hi5, hz5, hs5, hb5⟩ := info_parts info5
  have hcv := Kd.C_string (P := Try.prog) (A := A1) (c := c1) Try.underlying22 Try.underlying5 Try.underlying9 (hr1 w (World.grownBy.refl _ _))
  have HN := Aside0.mk hn
  have HO := Aside0.mk ho
  have HR := Aside0.mk hr1
  clear hn ho hr1
  go_enter Try.func16, Try.ntmps16
  go_wp2
  go_loopw [11] (fun v wr => ∃ (k : Nat), v = .int .i64 k ∧ k ≤ n ∧ Aside0 (w.grownBy wr (some g)) ∧ Aside0 (∃ ys : List Int, ys.length = n ∧ wr.ownsRow B 5 1 (.slice (some ⟨g, 0, none⟩) n cap) n (nums .u8 ys))) (fun v _ => n - (intOf v).toNat)
  case atStart => exact ⟨0, rfl, Nat.zero_le _, ⟨World.grownBy.refl _ _⟩, ⟨_, HN.out, HO.out⟩⟩
  case round =>
    obtain ⟨k, rfl, hk, HG, HY⟩ := hrel
    obtain ⟨⟨ys, hy, hown⟩⟩ := HY
    have HY := Aside0.mk hy
    have HW := Aside0.mk hown
    by_cases hlt : k < n
    · obtain ⟨hc, hf⟩ := own_at hown (k : Int) (by omega) (by omega)
      rw [Int.toNat_natCast] at hc hf
      clear hy hown
      go_wp2
      go_roundw
      case rel =>
        have hs := own_store HW.out (k : Int) ((rd ys k + 1) % 256)
        rw [Int.toNat_natCast] at hs
        exact ⟨k + 1, by go_num, by omega, ⟨gb_trans HG.out hs.2⟩, ⟨_, by rw [List.length_set]; exact HY.out, hs.1⟩⟩
      case measure => simp [intOf]; omega
    · have hkn : k = n := by omega
      subst hkn
      clear hy hown
      have hgt : ¬ (k : Int) < (k : Int) := by omega
      have E1 := Aside0.mk (show nums .u8 ys ++ [Value.int .u8 99] = nums .u8 (ys ++ [99]) by simp [nums])
      go_wp2_with (at_builtin; refine wpList_append_fits _ rfl (.tmp 21) (.tmp 22) 22 rfl B 5 i5 1 Try.underlying22 hi5 hs5 g k cap (nums .u8 ys) rfl (HW.out.alloc _) ⟨wr.heap.size, 0, none⟩ 1 1 [.int .u8 99] rfl rfl ?c1 ?c2 hroom ?_; (case c1 => (intro j u hj; match j, hj with | 0, hj => (simp at hj; subst hj; simp [Addr.add]))); (case c2 => (intro u hu; simp at hu; subst hu; rfl)); intro w1 ho1 hg1; rw [E1.out] at ho1; have HO1 := Aside0.mk ho1; have HG1 := Aside0.mk (gb_trans (gb_alloc HG.out _) hg1); clear ho1 hg1; obtain ⟨hc, hf⟩ := own_at HO1.out (k : Int) (by omega) (by omega); rw [Int.toNat_natCast] at hc hf; have hst := own_store HO1.out (k : Int) ((rd (ys ++ [99]) k + 1) % 256); rw [Int.toNat_natCast] at hst; have HST := Aside0.mk hst; clear hst; have hcv2 := Kd.C_string (P := Try.prog) (A := A1) (c := c1) Try.underlying22 Try.underlying5 Try.underlying9 (HR.out _ (gb_trans HG1.out HST.out.2)))
      go_ret
      refine ⟨by simp, gb_trans HG1.out HST.out.2, (ys ++ [99]).set k ((rd (ys ++ [99]) k + 1) % 256) |>.take k, ?_, ?_⟩
      · rw [List.length_take, List.length_set, List.length_append, HY.out]; simp
      · have hp := HST.out.1
        have e2 := take_last ((ys ++ [99]).set k ((rd (ys ++ [99]) k + 1) % 256)) k (by simp [HY.out])
        rw [e2, nums_append] at hp
        exact own_prefix hp
/-- make([]byte, n, c) -/
theorem make_cap {P : Program} {ops : Array Oper} {rest : List Oper} {o : Oper} {a : Act} {Q : Exit → Act → World → Prop} {W : World} (hgd : o.guard = none) (t e : TypeId) (x y : Operand) (ho : o.op = .makeSlice t x y) (n c : Nat) (cI : Int)
    (hx : a.eval x = .int .i64 (n : Int)) (hy : a.eval y = .int .i64 cI) (hcI : cI = c) (ht : P.underlying t = some (.slice e)) (hinfo : (P.info? e).map (fun i => (i.zero, i.size, i.bytes)) = some (some (.int .u8 0), 1, 1)) (hnc : n ≤ c) (hc : c ≤ 281474976710656)
    (h : ∀ g w1, w1.heap[g]? = some (.cells (nums .u8 (List.replicate c 0)).toArray e (0, 0)) → W.heap.size ≤ g → Below W.heap.size W w1 → wpList P ops Q rest (a.put o.dst (.slice (some ⟨g, 0, none⟩) n c)) w1) : wpList P ops Q (o :: rest) a W := by
  obtain ⟨i, hi, hz, hs, hb⟩ := info_parts hinfo
  subst hcI
  have hrun := run_make (P := P) W t e i (.int .u8 0) ht hi hz .i64 .i64 (n : Int) (c : Int) (by omega) (by omega) (by rw [hb]; omega) (by omega)
  simp only [Int.toNat_natCast] at hrun
  have hm : madeCells (Value.int .u8 0).cells (c * i.size) = (nums .u8 (List.replicate c 0)).toArray := by
    rw [hs, Nat.mul_one]
    apply Array.ext
    · simp [madeCells, nums]
    · intro j h1 h2
      simp [madeCells, nums, Value.cells, Nat.mod_one]
  rw [hm] at hrun
  refine Kd.event_run (v := .slice (some ⟨W.heap.size, 0, none⟩) n c) (w1 := W.alloc (.cells (nums .u8 (List.replicate c 0)).toArray e)) hgd ?_ (h W.heap.size _ (heap_alloc_new W _) (Nat.le_refl _) ((Below.refl _ _).alloc (Nat.le_refl _) _))
  unfold execOp
  simp only [ho, hx, hy, Sem.run_bind, hrun, Result.andThen_ok, Sem.run_pure]
theorem copied {w : World} {B g c : Nat} {xs : List Int} (h : w.heap[g]? = some (.cells (splice (nums .u8 (List.replicate c 0)) 0 (nums .u8 xs)).toArray 5 (0, 0))) (hB : B ≤ g) (hc : xs.length ≤ c) (hm : c ≤ 9223372036854775807) :
    Kd.R (Kd.int .u8) 5 w B (fun _ => True) (.slice (some ⟨g, 0, none⟩) xs.length c) xs := by
  refine ⟨fun _ _ => trivial, nums .u8 xs, ⟨by simp [nums_length, Kd.int, Kd.scalar], .inr ⟨g, c, _, rfl, hB, h, hc, hm, ?_, ?_⟩⟩, ⟨by simp [nums_length, Kd.int, Kd.scalar], fun j p hj => ?_⟩⟩
  · show _ = c * 1
    simp [splice, nums_length]; omega
  · show List.take (xs.length * 1) _ = _
    simp only [splice, List.take_zero, List.nil_append, Nat.mul_one]
    rw [← nums_length .u8 xs, List.take_left]
  · show ((nums .u8 xs).drop (j * 1)).take 1 = [Value.int .u8 p]
    have hjl := (List.getElem?_eq_some_iff.1 hj).1
    have he := (List.getElem?_eq_some_iff.1 hj).2
    rw [Nat.mul_one, List.drop_eq_getElem_cons (by rw [nums_length]; exact hjl)]
    simp [nums, he]
/-- The same, of a row as the other contracts tell it. -/
theorem own_true {w0 w : World} {ok : Nat → Prop} (Ao : Option Addr) (n co : Nat) (xs : List Int) (A1 : Option Addr) (c1 : Nat) (l1 : List Int) (ho : Kd.R (Kd.int .u8) 5 w w0.heap.size ok (.slice Ao n co) xs) (hn : xs.length = n) (hn2 : n ≤ 140737488355328) (hroom : n + 1 ≤ co)
    (hr1 : ∀ W_, w.grownBy W_ (.slice Ao n co : Value).ownBlock → Kd.C (Kd.int .u8) W_ A1 l1.length l1) (hB : Below w0.heap.size w0 w) :
    Calls Try.prog 16 #[.slice Ao n co, .slice A1 l1.length c1] w fun e w' => e = .returned (.bool true) ∧ Below w0.heap.size w0 w' ∧ w.grownBy w' (.slice Ao n co : Value).ownBlock ∧ ∃ ys : List Int, ys.length = n ∧ Kd.R (Kd.int .u8) 5 w' w0.heap.size ok (.slice Ao n co) ys := by
  have how := Kd.own_of_R ho
  rw [hn] at how
  rcases how.2 with ⟨hv, h0⟩ | ⟨g, cap, cur, hv, hg, _⟩
  · injection hv with h1 h2 h3
    omega
  · injection hv with h1 h2 h3
    subst h1 h3
    refine (own_block g n co w0.heap.size xs hn hn2 hroom A1 c1 l1 w how hr1).mono ?_
    rintro e w' ⟨rfl, hgb, ys, hy, hown⟩
    refine ⟨rfl, pw_below_grown hB (some g) hB.size hgb (fun k hk => by cases hk; exact hg), hgb, ys, hy, ho.1, nums .u8 ys, by rw [hy]; exact hown, ?_⟩
    refine ⟨by simp [nums_length, Kd.int, Kd.scalar], fun j p hj => ?_⟩
    show ((nums .u8 ys).drop (j * 1)).take 1 = [Value.int .u8 p]
    have hjl := (List.getElem?_eq_some_iff.1 hj).1
    have he := (List.getElem?_eq_some_iff.1 hj).2
    rw [Nat.mul_one, List.drop_eq_getElem_cons (by rw [nums_length]; exact hjl)]
    simp [nums, he]
end Go.Proofs.Ytbmelglpcdidcaa.P
