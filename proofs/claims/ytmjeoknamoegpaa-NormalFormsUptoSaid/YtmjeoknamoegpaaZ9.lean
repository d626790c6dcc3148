-- several texts in one: FormsW Op
import Derived.ChangeSame
import Derived.Deep.Fields
import Derived.Deep.Slices
import Derived.OpenShut
import Derived.Test.YtmjeoknamoegpaaRows
import Derived.Test.YtmjeoknamoegpaaZ6
import Derived.Test.YtmjeoknamoegpaaZ8
namespace Go.Proofs.Ytmjeoknamoegpaa.P
open Go.RowKit Go.Proofs.YtmjeoknamoegpaaW.PrintWords Go.Proofs.YtmjeoknamoegpaaW.PrintLast Go.Proofs.YtmjeoknamoegpaaW.PrintMore
set_option linter.unusedVariables false
set_option linter.unusedSimpArgs false
theorem ofP_len3 (l : List S30) (h : sz l ≤ 20000) : (ofP l).length ≤ 3000000 := by
 obtain ⟨h1, h2, h3⟩ := small_sz h
 have h4 := (StOk.fold0 l (fun x hx => by have := h3 x hx; omega)).1
 have h5 := gapP_len (foldP l).2.1 (foldP l).2.2
 have h6 : (ofP l).length ≤ ((foldP l).1 ++ gapP (foldP l).2.1 (foldP l).2.2).length := by
  show (opsP (foldP l).1 (foldP l).2.1 (foldP l).2.2).length ≤ _
  unfold opsP
  generalize (foldP l).1 ++ gapP (foldP l).2.1 (foldP l).2.2 = M
  cases hM : M.getLast? with
  | none => simp only [hM]; exact Nat.le_refl _
  | some o =>
   simp only [hM]
   split
   ·rw [List.length_dropLast]; omega
   ·exact Nat.le_refl _
 rw [List.length_append] at h6
 omega
set_option maxHeartbeats 4000000 in
set_option maxRecDepth 100000 in
theorem forms5 (A0 : Option Addr) (c0 : Nat) (l0 : List S64) (A1 : Option Addr) (c1 : Nat) (l1 : List S30) (w : World) (hr0 : Kd.C k64 w A0 l0.length l0) (hc0 : l0.length ≤ c0) (hr1 : Kd.C k30 w A1 l1.length l1) (hc1 : l1.length ≤ c1) (hz : sz l1 ≤ 2000000) :
  Calls Try.prog 5 #[.slice A0 l0.length c0, .slice A1 l1.length c1] w fun e w' => e = .returned (.bool true) ∧ Below w.heap.size w w' := by
 have HR0 := Aside0.mk hr0
 have HC0 := Aside0.mk hc0
 have HR1 := Aside0.mk hr1
 have HC1 := Aside0.mk hc1
 have HZ := Aside0.mk hz
 clear hr0 hc0 hr1 hc1 hz
 go_enter Try.func5, Try.ntmps5
 go_wp2_with fail
 refine (tame8 A0 c0 l0 A1 c1 l1 w HR0.out HC0.out HR1.out HC1.out HZ.out).mono ?_
 rintro e w1 ⟨⟨r, rfl, ht⟩, hb⟩
 have HB1 := Aside0.mk hb
 have HTT := Aside0.mk ht
 clear hb ht
 cases r with
 | false =>
  clear HTT
  go_wp2_with fail
  refine (rubricref15_Size.calls 6000001 A1 c1 l1 (sz l1 : Int) w1 (Kd.C_below HR1.out HB1.out) HC1.out (size_eq l1 HZ.out 6000001 (Nat.le_refl _))).mono ?_
  rintro e w2 ⟨rfl, hb⟩
  have HB2 := Aside0.mk (below_step HB1.out (by first | exact hb | exact Drawn0.below hb))
  clear hb
  by_cases hs : sz l1 ≤ 20000
  ·have hsb : decide ((sz l1 : Int) ≤ 20000) = true := decide_eq_true (by omega)
   have HS := Aside0.mk hs
   clear hs
   go_wp2_with fail
   refine (refCopy_calls A1 c1 l1 w2 (Kd.C_below HR1.out HB2.out) HC1.out (by have := (small_sz HS.out).1; omega) (fun x hx => by
    have h1 := (small_sz HS.out).2.1
    have h2 : x.f2.length ≤ tot l1 := le_sum_mem (List.mem_map.2 ⟨x, hx, rfl⟩)
    have h3 := (small_sz HS.out).2.2 x hx
    omega)).mono ?_
   rintro e w3 ⟨v3, rfl, hS, hb⟩
   obtain ⟨A3, c3, rfl⟩ := Kd.S_slice hS
   have HS3 := Aside0.mk hS
   have HB3 := Aside0.mk (below_step HB2.out hb)
   clear hS hb
   go_wp2_with fail
   refine (normal_Of.calls A3 c3 l1 (ofP l1) w3 (Kd.S_reads' HS3.out).2.2 (Kd.S_reads' HS3.out).2.1 (of_some (small_sz HS.out))).mono ?_
   rintro e w4 ⟨v4, rfl, hS, hb⟩
   have HB4 := Aside0.mk (below_step HB3.out hb)
   clear hS hb
   go_wp2_with fail
   refine (normal_Is.calls A1 c1 l1 _ w4 (Kd.C_below HR1.out HB4.out) HC1.out (by unfold normal_Is.f; rw [of_some (small_sz HS.out), Option.bind_some, same_some (ofP_len3 l1 HS.out), Option.bind_some])).mono ?_
   rintro e w5 ⟨rfl, hb⟩
   have HB5 := Aside0.mk (below_step HB4.out hb)
   clear hb
   go_wp2_with fail
   refine (rubriclaw16_known.calls true w5 rfl).mono ?_
   rintro e w6 ⟨rfl, hb⟩
   have HB6 := Aside0.mk (below_step HB5.out hb)
   clear hb
   go_wp2_with fail
   go_ret
   exact ⟨rfl, HB6.out⟩
  ·have hsb : decide ((sz l1 : Int) ≤ 20000) = false := decide_eq_false (by omega)
   clear hs
   go_wp2_with fail
   refine (rubriclaw16_known.calls true w2 rfl).mono ?_
   rintro e w3 ⟨rfl, hb⟩
   have HB3 := Aside0.mk (below_step HB2.out hb)
   clear hb
   go_wp2_with fail
   go_ret
   exact ⟨rfl, HB3.out⟩
 | true =>
  obtain ⟨hs, ho⟩ := HTT.out rfl
  have HS := Aside0.mk hs
  have HO := Aside0.mk ho
  clear hs ho HTT
  go_wp2_with fail
  refine (refCopy_calls A1 c1 l1 w1 (Kd.C_below HR1.out HB1.out) HC1.out (by have := (small_sz HS.out).1; omega) (fun x hx => by
   have h1 := (small_sz HS.out).2.1
   have h2 : x.f2.length ≤ tot l1 := le_sum_mem (List.mem_map.2 ⟨x, hx, rfl⟩)
   have h3 := (small_sz HS.out).2.2 x hx
   omega)).mono ?_
  rintro e w2 ⟨v2, rfl, hS, hb⟩
  obtain ⟨A3, c3, rfl⟩ := Kd.S_slice hS
  have HS2 := Aside0.mk hS
  have HB2 := Aside0.mk (below_step HB1.out hb)
  clear hS hb
  go_wp2_with fail
  refine (normal_Of.calls A3 c3 l1 (ofP l1) w2 (Kd.S_reads' HS2.out).2.2 (Kd.S_reads' HS2.out).2.1 (of_some (small_sz HS.out))).mono ?_
  rintro e w3 ⟨v3, rfl, hS, hb⟩
  obtain ⟨AG, cG, rfl⟩ := Kd.S_slice hS
  have HS3 := Aside0.mk hS
  have B3 := Aside0.mk hb
  have HB3 := Aside0.mk (below_step HB2.out hb)
  clear hS hb
  obtain ⟨L, hL⟩ : ∃ L, ofP l1 = L := ⟨_, rfl⟩
  have HSL := Aside0.mk (form_small HS.out HO.out)
  have HNF := Aside0.mk (NF.self (NF.make l1 HO.out (by have := (small_sz HS.out).1; omega)))
  have HOF := Aside0.mk (of_some (form_small HS.out HO.out))
  rw [hL] at HS3 HSL HNF HOF ⊢
  have HL := Aside0.mk hL
  clear hL
  go_wp2_with fail
  refine (refOf_calls A1 c1 l1 w3 (Kd.C_below HR1.out HB3.out) HC1.out HS.out HO.out).mono ?_
  rintro e w4 ⟨v4, rfl, hS, hb⟩
  obtain ⟨AH, cH, rfl⟩ := Kd.S_slice hS
  have HS4 := Aside0.mk hS
  have B4 := Aside0.mk (below_then B3.out B3.out.size hb)
  have B34 := Aside0.mk hb
  have HB4 := Aside0.mk (below_step HB3.out hb)
  clear hS hb
  rw [HL.out] at HS4 ⊢
  go_wp2_with fail
  refine (refSame_calls AG cG L AH cH L w4 (Kd.C_below (Kd.S_reads' HS3.out).2.2 B34.out) (Kd.S_reads' HS3.out).2.1 (Kd.S_reads' HS4.out).2.2 (Kd.S_reads' HS4.out).2.1 (by have := HSL.out.1; omega)).mono ?_
  rintro e w5 ⟨rfl, hb⟩
  have B5 := Aside0.mk (below_then B4.out B4.out.size hb)
  have B35 := Aside0.mk (below_step B34.out hb)
  have HB5 := Aside0.mk (below_step HB4.out hb)
  clear hb
  rw [eqB_true.2 rfl]
  go_wp2_with fail
  refine (normal_Is.calls A3 c3 l1 (eqB (L.map keyO) (l1.map keyO)) w5 (Kd.C_below (Kd.S_reads' HS2.out).2.2 B5.out) (Kd.S_reads' HS2.out).2.1 (by unfold normal_Is.f; rw [of_some (small_sz HS.out), Option.bind_some, HL.out, same_some (by have := HSL.out.1; omega), Option.bind_some])).mono ?_
  rintro e w6 ⟨rfl, hb⟩
  have B6 := Aside0.mk (below_then B5.out B5.out.size hb)
  have B36 := Aside0.mk (below_step B35.out hb)
  have HB6 := Aside0.mk (below_step HB5.out hb)
  clear hb
  go_wp2_with fail
  refine (refIs_calls A1 c1 l1 w6 (Kd.C_below HR1.out HB6.out) HC1.out HS.out HO.out).mono ?_
  rintro e w7 ⟨rfl, hb⟩
  have B7 := Aside0.mk (below_then B6.out B6.out.size hb)
  have B37 := Aside0.mk (below_step B36.out hb)
  have HB7 := Aside0.mk (below_step HB6.out hb)
  clear hb
  rw [HL.out]
  obtain ⟨bi, hbi⟩ : ∃ b, eqB (L.map keyO) (l1.map keyO) = b := ⟨_, rfl⟩
  rw [hbi]
  clear hbi
  go_wp2_with fail
  refine (normal_Is.calls AG cG L true w7 (Kd.C_below (Kd.S_reads' HS3.out).2.2 B37.out) (Kd.S_reads' HS3.out).2.1 (by unfold normal_Is.f; rw [HOF.out, Option.bind_some, HNF.out, same_some (by have := HSL.out.1; omega), eqB_true.2 rfl]; rfl)).mono ?_
  rintro e W0 ⟨rfl, hb⟩
  have B8 := Aside0.mk (below_then B7.out B7.out.size hb)
  have B38 := Aside0.mk (below_step B37.out hb)
  have HB8 := Aside0.mk (below_step HB7.out hb)
  clear hb
  have HG := Aside0.mk (Kd.S_below HS3.out B38.out)
  have HLL := Aside0.mk HSL.out
  clear HS4 HSL HNF HOF HS3 B4 B5 B6 B7 B34 B35 B36 B37
  generalize hB : w2.heap.size = B at B8 HG B3
  have HBB := Aside0.mk hB
  clear hB
  go_wp2_with fail
  go_loopw [47] (fun t wr => ∃ k : Nat, k ≤ L.length ∧ t = .int .i64 k ∧ Aside0 (SK B W0 wr)) (fun t _ => L.length - (intOf t).toNat)
  case atStart => exact ⟨0, Nat.zero_le _, rfl, ⟨SK.refl _ _⟩⟩
  case round =>
   obtain ⟨i, hi, rfl, HSK⟩ := hrel
   by_cases hlt : i < L.length
   ·obtain ⟨g, cap, hv, hgb, _⟩ := Kd.S_form HG.out (by omega)
    injection hv with e1 _ e3
    subst e1
    subst e3
    obtain ⟨o, n2, n3, n4, R2, d2, R3, d3, R4, d4, ho, e2, e3, e4, l2, l3, l4, _, _, _, f2, f3, f4, r2, r3, r4⟩ := got_row HG.out i hlt
    have F2 := Aside0.mk f2
    have F3 := Aside0.mk f3
    have F4 := Aside0.mk f4
    have RI2 := Aside0.mk r2
    have RI3 := Aside0.mk r3
    have RI4 := Aside0.mk r4
    have hii : (i : Int) < (L.length : Int) := by omega
    have qi : (0 : Int) ≤ (i : Int) := Int.natCast_nonneg i
    have hlb : L.length ≤ 20000 := HLL.out.1
    have hn2 : n2 ≤ 20000 := by have := le_sum_mem (List.mem_map.2 ⟨o, List.mem_of_getElem? ho, rfl⟩ : o.f2.length ∈ L.map fun o => o.f2.length); have h_ := HLL.out.2.1; unfold tot at h_; omega
    have hn3 : n3 ≤ 20000 := by have := (HLL.out.2.2 o (List.mem_of_getElem? ho)).1; omega
    have hn4 : n4 ≤ 20000 := by have := (HLL.out.2.2 o (List.mem_of_getElem? ho)).2; omega
    clear e2 e3 e4 ho f2 f3 f4 r2 r3 r4 hgb
    have f2 := HSK.out.rest _ _ F2.out (fun _ _ h => by cases h)
    go_wp2_with fail
    go_loopw [56] (fun t wr => ∃ j : Nat, j ≤ n2 ∧ t = .int .i64 j ∧ Aside0 (SK B W0 wr)) (fun t _ => n2 - (intOf t).toNat)
    case atStart => exact ⟨0, Nat.zero_le _, rfl, HSK⟩
    case round =>
     clear HSK
     obtain ⟨j, hj, rfl, HSK⟩ := hrel
     by_cases hlt : j < n2
     ·obtain ⟨gi, hgi, hgb, hcj⟩ := RI2.out (by omega)
      have HRA := Aside0.mk hgi
      obtain ⟨x, hx, hf⟩ := hcj j hlt
      have hf2 := (HSK.out.frozen _ (World.block_lt_of_cell? _ _ hx)).trans hf
      obtain ⟨y, hy⟩ := HSK.out.int _ _ _ hx
      have f2 := HSK.out.rest _ _ F2.out (fun _ _ h => by cases h)
      rw [hgi] at f2
      have hji : (j : Int) < (n2 : Int) := by omega
      have q0 : (0 : Int) ≤ (j : Int) := Int.natCast_nonneg j
      rw [Nat.mul_one] at hy hf2
      have HX := Aside0.mk hy
      have HGB := Aside0.mk hgb
      clear hx hf hcj hgb hgi
      go_wp2_with fail
      go_roundw
      case rel => exact ⟨j + 1, by omega, by go_num, ⟨SK.put HSK.out HGB.out HX.out _⟩⟩
      case measure => simp [intOf]; omega
     ·obtain rfl : j = n2 := by omega
      have f3 := HSK.out.rest _ _ F3.out (fun _ _ h => by cases h)
      go_wp2_with fail
      go_loopw [76] (fun t wr => ∃ j : Nat, j ≤ n3 ∧ t = .int .i64 j ∧ Aside0 (SK B W0 wr)) (fun t _ => n3 - (intOf t).toNat)
      case atStart => exact ⟨0, Nat.zero_le _, rfl, HSK⟩
      case round =>
       clear HSK
       obtain ⟨j, hj, rfl, HSK⟩ := hrel
       by_cases hlt : j < n3
       ·obtain ⟨gi, hgi, hgb, hcj⟩ := RI3.out (by omega)
        have HRA := Aside0.mk hgi
        obtain ⟨x, hx, hf⟩ := hcj j hlt
        have hf2 := (HSK.out.frozen _ (World.block_lt_of_cell? _ _ hx)).trans hf
        obtain ⟨y, hy⟩ := HSK.out.int _ _ _ hx
        have f2 := HSK.out.rest _ _ F3.out (fun _ _ h => by cases h)
        rw [hgi] at f2
        have hji : (j : Int) < (n3 : Int) := by omega
        have q0 : (0 : Int) ≤ (j : Int) := Int.natCast_nonneg j
        skip
        have HX := Aside0.mk hy
        have HGB := Aside0.mk hgb
        clear hx hf hcj hgb hgi
        go_wp2_with fail
        go_roundw
        case rel => exact ⟨j + 1, by omega, by go_num, ⟨SK.put HSK.out HGB.out HX.out _⟩⟩
        case measure => simp [intOf]; omega
       ·obtain rfl : j = n3 := by omega
        have f4 := HSK.out.rest _ _ F4.out (fun _ _ h => by cases h)
        go_wp2_with fail
        go_loopw [98] (fun t wr => ∃ j : Nat, j ≤ n4 ∧ t = .int .i64 j ∧ Aside0 (SK B W0 wr)) (fun t _ => n4 - (intOf t).toNat)
        case atStart => exact ⟨0, Nat.zero_le _, rfl, HSK⟩
        case round =>
         clear HSK
         obtain ⟨j, hj, rfl, HSK⟩ := hrel
         by_cases hlt : j < n4
         ·obtain ⟨gi, hgi, hgb, hcj⟩ := RI4.out (by omega)
          have HRA := Aside0.mk hgi
          obtain ⟨x, hx, hf⟩ := hcj j hlt
          have hf2 := (HSK.out.frozen _ (World.block_lt_of_cell? _ _ hx)).trans hf
          obtain ⟨y, hy⟩ := HSK.out.int _ _ _ hx
          have f2 := HSK.out.rest _ _ F4.out (fun _ _ h => by cases h)
          rw [hgi] at f2
          have hji : (j : Int) < (n4 : Int) := by omega
          have q0 : (0 : Int) ≤ (j : Int) := Int.natCast_nonneg j
          skip
          have HX := Aside0.mk hy
          have HGB := Aside0.mk hgb
          clear hx hf hcj hgb hgi
          go_wp2_with fail
          go_roundw
          case rel => exact ⟨j + 1, by omega, by go_num, ⟨SK.put HSK.out HGB.out HX.out _⟩⟩
          case measure => simp [intOf]; omega
         ·obtain rfl : j = n4 := by omega
          go_wp2_with fail
          go_roundw
          case rel => exact ⟨i + 1, by omega, by go_num, HSK⟩
          case measure => simp [intOf]; omega
   ·obtain rfl : i = L.length := by omega
    have HLB : Aside0 (Below B w2 wr) := ⟨B8.out.trans HSK.out.below⟩
    have HBW : Aside0 (Below w.heap.size w wr) := ⟨by have h1 := HB8.out; have h2 := HSK.out.below.mono (show w.heap.size ≤ B from by rw [← HBB.out]; exact HB2.out.size); exact h1.trans h2⟩
    go_wp2_with fail
    refine (refSame_calls A3 c3 l1 A1 c1 l1 wr (Kd.C_below (Kd.S_reads' HS2.out).2.2 (by rw [HBB.out]; exact HLB.out)) (Kd.S_reads' HS2.out).2.1 (Kd.C_below HR1.out HBW.out) HC1.out (by have := (small_sz HS.out).1; omega)).mono ?_
    rintro e w9 ⟨rfl, hb⟩
    have HB9 := Aside0.mk (below_step HBW.out hb)
    clear hb
    rw [eqB_true.2 rfl]
    go_wp2_with fail
    refine (rubriclaw16_known.calls true w9 rfl).mono ?_
    rintro e w10 ⟨rfl, hb⟩
    have HB10 := Aside0.mk (below_step HB9.out hb)
    clear hb
    go_wp2_with fail
    go_ret
    exact ⟨rfl, HB10.out⟩
end Go.Proofs.Ytmjeoknamoegpaa.P
namespace Go.Proofs.Ytmjeoknamoegpaa.bulks
theorem one_le {H : Type} (d : DataW H) : 1 ≤ Rows.uptoBulk d := by
 cases d with
 | lit l => cases l <;> simp [Rows.uptoBulk]
 | nil => simp [Rows.uptoBulk]
 | ptr d => simp [Rows.uptoBulk]
 | slice elems spare => simp [Rows.uptoBulk]
 | agg parts => simp [Rows.uptoBulk]
 | iface t d => simp [Rows.uptoBulk]
 | map entries => simp [Rows.uptoBulk]
 | held h => simp [Rows.uptoBulk]
theorem append {H : Type} (l r : List (DataW H)) : Rows.uptoBulkAll (l ++ r) = Rows.uptoBulkAll l + Rows.uptoBulkAll r := by
 induction l with
 | nil => simp [Rows.uptoBulkAll]
 | cons x l ih => simp only [List.cons_append, Rows.uptoBulkAll, ih]; omega
/-- a string's letters -/
theorem string_eq {H : Type} (bytes : List UInt8) : Rows.uptoBulk (DataW.lit (H := H) (.string bytes)) = bytes.length + 1 := by
 simp [Rows.uptoBulk]
/-- THE BOUND, as the builder hands it over ('hk') -/
theorem bound {H : Type} {l : List (DataW H)} (hk : Rows.uptoSmall H l = true) : Rows.uptoBulkAll l ≤ 1048576 := by
 simpa [Rows.uptoSmall] using hk
end Go.Proofs.Ytmjeoknamoegpaa.bulks
namespace Go.Proofs.Ytmjeoknamoegpaa.P
open Go.RowKit Go.ChangeShapes Go.WideShapes Go.Deep Go.Proofs.YtmjeoknamoegpaaW.PrintWords Go.Proofs.YtmjeoknamoegpaaW.PrintLast Go.Proofs.YtmjeoknamoegpaaW.PrintMore
set_option linter.unusedVariables false
section
variable {H : Type} {enc : TypeId × Value → H} {w : World} {base : Nat} {spare : Nat → Bool} {held : Bool}
def Opens (H : Type) (enc : TypeId × Value → H) (w : World) (base : Nat) (spare : Nat → Bool) (held : Bool) {α : Type} (t : TypeId) (d : Kd α) (wt : α → Nat) : Prop :=
 ∀ (fuel : Nat) (cs : List Value) (x : DataW H × List MemPlace), DataW.trod enc Try.prog w base spare held fuel t cs = some x → ∃ y : α, d.K w y cs ∧ wt y + 1 ≤ Rows.uptoBulk x.1
theorem opens_int {t : TypeId} {k : IntKind} (ht : Try.prog.underlying t = some (.int k)) : Opens H enc w base spare held t (Kd.int k) (fun _ => 0) := by
 intro fuel cs x h
 obtain ⟨n, rfl, _, _⟩ := DataW.trod_int ht h
 exact ⟨n, rfl, by have := bulks.one_le x.1; omega⟩
theorem opens_bool {t : TypeId} (ht : Try.prog.underlying t = some .bool) : Opens H enc w base spare held t Kd.bool (fun _ => 0) := by
 intro fuel cs x h
 obtain ⟨n, rfl, _⟩ := DataW.trod_bool ht h
 exact ⟨n, rfl, by have := bulks.one_le x.1; omega⟩
theorem opens_string {t : TypeId} (ht : Try.prog.underlying t = some .string) : Opens H enc w base spare held t Kd.string (fun s => s.size) := by
 intro fuel cs x h
 obtain ⟨s, rfl, rfl, _⟩ := DataW.trod_string ht h
 refine ⟨s, rfl, ?_⟩
 rw [bulks.string_eq, Array.length_toList]
 exact Nat.le_refl _
theorem sum_bulk {g : Nat → Nat} {D : Nat → DataW H} : ∀ L : List Nat, (∀ i ∈ L, g i ≤ Rows.uptoBulk (D i)) → (L.map g).sum ≤ Rows.uptoBulkAll (L.map D)
 | [], _ => by simp
 | i :: L, h => by
  have h1 := h i (by simp)
  have h2 := sum_bulk L (fun j hj => h j (by simp [hj]))
  simp only [List.map_cons, List.sum_cons, Rows.uptoBulkAll]
  omega
theorem opens_slice {α : Type} [Inhabited α] {t e : TypeId} {d : Kd α} {wt : α → Nat} (ht : Try.prog.underlying t = some (.slice e)) (hsz : Try.prog.cellsOf e = d.sz) (he : Opens H enc w base spare held e d wt) : Opens H enc w base spare held t (Kd.slice e d) (fun l => (l.map fun y => wt y + 1).sum) := by
 intro fuel cs x h
 rcases open_slice ht h with ⟨rfl, _⟩ | ⟨a, len, cap, m, n, D, Pl, rfl, hb, hl, hm, hmm, hx, hi⟩
 ·exact ⟨[], ⟨none, 0, rfl, by simp, Kd.C_nil _ _⟩, by have := bulks.one_le x.1; simp; omega⟩
 ·have hlm : len ≤ m := by rw [hmm]; split <;> omega
  have h1 : ∀ i : Nat, ∃ y : α × List Value, i < len → (d.K w y.1 y.2 ∧ y.2.length = d.sz ∧ ∀ j u, y.2[j]? = some u → w.cell? (a.add (i * d.sz + j)) = some u) ∧ wt y.1 + 1 ≤ Rows.uptoBulk (D i) := by
   intro i
   by_cases hil : i < len
   ·obtain ⟨cs', hc, ht'⟩ := hi i (by omega)
    obtain ⟨y, hy, hyw⟩ := he _ _ _ ht'
    obtain ⟨_, hcl, hat⟩ := World.cells?_some hc
    rw [hsz] at hcl hat
    refine ⟨(y, cs'), fun _ => ⟨⟨hy, hcl, fun j u hu => ?_⟩, hyw⟩⟩
    have hj : j < d.sz := by have := (List.getElem?_eq_some_iff.1 hu).1; dsimp only at this; omega
    rw [← Go.Deep.add_add, hat j hj]; exact hu
   ·exact ⟨(default, []), fun hh => absurd hh hil⟩
  obtain ⟨f, hf⟩ := Classical.skolem.1 h1
  refine ⟨(List.range len).map fun i => (f i).1, ⟨some a, cap, by simp, by simpa using hl, by simp, ?_, fun hp => ⟨a, rfl, fun j p hj => ?_⟩⟩, ?_⟩
  ·simp only [List.length_map, List.length_range]
   have : maxLen ≤ 9223372036854775807 := by decide
   omega
  ·rw [List.getElem?_map] at hj
   obtain ⟨j', hj', rfl⟩ := Option.map_eq_some_iff.1 hj
   obtain ⟨hlt, he'⟩ := List.getElem?_eq_some_iff.1 hj'
   rw [List.getElem_range] at he'
   subst he'
   rw [List.length_range] at hlt
   obtain ⟨⟨k1, k2, k3⟩, _⟩ := hf j hlt
   exact ⟨(f j).2, k2, k1, k3⟩
  ·have h2 := sum_bulk (g := fun i => wt (f i).1 + 1) (D := D) (List.range len) (fun i hi => (hf i (List.mem_range.1 hi)).2)
   rw [hx]
   simp only [Rows.uptoBulk, List.map_map]
   have e : (List.map ((fun y => wt y + 1) ∘ fun i => (f i).1) (List.range len)) = (List.range len).map (fun i => wt (f i).1 + 1) := rfl
   rw [e]
   omega
theorem opens_iso {α β : Type} {t : TypeId} {d : Kd α} {wt : α → Nat} (f : β → α) (g : α → β) (hfg : ∀ x, f (g x) = x) (h : Opens H enc w base spare held t d wt) : Opens H enc w base spare held t (Kd.iso d f) (fun b => wt (f b)) := by
 intro fuel cs x hx
 obtain ⟨y, hy, hw⟩ := h fuel cs x hx
 exact ⟨g y, by show d.K w (f (g y)) cs; rw [hfg]; exact hy, by simp only [hfg]; exact hw⟩
/-- From the i-th field on. -/
def Tl {α : Type} (w : World) (xs : List (DataW H × List MemPlace)) (cs : List Value) (i off : Nat) (d : Kd α) (wt : α → Nat) : Prop := ∃ y : α, d.K w y (cs.drop off) ∧ wt y ≤ Rows.uptoBulkAll ((xs.drop i).map (·.1))
theorem tl_one {α : Type} {a : Kd α} {wa : α → Nat} {xs : List (DataW H × List MemPlace)} {cs : List Value} {n i off : Nat} {t : TypeId} (ha : Opens H enc w base spare held t a wa) (hi : i < xs.length) (hc : Try.prog.cellsOf t = a.sz)
  (ht : DataW.trod enc Try.prog w base spare held n t ((cs.drop off).take (Try.prog.cellsOf t)) = xs[i]?) : ∃ y : α, a.K w y ((cs.drop off).take a.sz) ∧ wa y + Rows.uptoBulkAll ((xs.drop (i + 1)).map (·.1)) ≤ Rows.uptoBulkAll ((xs.drop i).map (·.1)) := by
 rw [List.getElem?_eq_getElem hi, hc] at ht
 obtain ⟨y, hy, hw⟩ := ha _ _ _ ht
 refine ⟨y, hy, ?_⟩
 rw [List.drop_eq_getElem_cons hi]
 simp only [List.map_cons, Rows.uptoBulkAll]
 omega
theorem tl_last {α : Type} {a : Kd α} {wa : α → Nat} {xs : List (DataW H × List MemPlace)} {cs : List Value} {n i off : Nat} {t : TypeId} (ha : Opens H enc w base spare held t a wa) (hi : xs.length = i + 1) (hc : Try.prog.cellsOf t = a.sz) (hl : cs.length = off + a.sz)
  (ht : DataW.trod enc Try.prog w base spare held n t ((cs.drop off).take (Try.prog.cellsOf t)) = xs[i]?) : Tl w xs cs i off a wa := by
 obtain ⟨y, hy, hw⟩ := tl_one ha (by omega) hc ht
 rw [List.take_of_length_le (by rw [List.length_drop]; omega)] at hy
 exact ⟨y, hy, by omega⟩
theorem tl_cons {α β : Type} {a : Kd α} {b : Kd β} {wa : α → Nat} {wb : β → Nat} {xs : List (DataW H × List MemPlace)} {cs : List Value} {n i off : Nat} {t : TypeId} (ha : Opens H enc w base spare held t a wa) (hi : i < xs.length) (hc : Try.prog.cellsOf t = a.sz)
  (ht : DataW.trod enc Try.prog w base spare held n t ((cs.drop off).take (Try.prog.cellsOf t)) = xs[i]?) (h : Tl w xs cs (i + 1) (off + a.sz) b wb) : Tl w xs cs i off (Kd.pair a b) (fun p => wa p.1 + wb p.2) := by
 obtain ⟨y, hy, hw⟩ := tl_one ha hi hc ht
 obtain ⟨z, hz, hw2⟩ := h
 refine ⟨(y, z), ⟨_, _, ?_, hy, hz⟩, by simp only; omega⟩
 rw [← List.drop_drop, List.take_append_drop]
theorem opens_struct {α : Type} {t : TypeId} {fs : Array Field} {d : Kd α} {wt : α → Nat} (ht : Try.prog.underlying t = some (.struct fs))
  (h : ∀ (n : Nat) (cs : List Value) (xs : List (DataW H × List MemPlace)), cs.length = Try.prog.cellsOf t → xs.length = fs.size → (∀ (i : Nat) (f : Field), fs[i]? = some f → DataW.trod enc Try.prog w base spare held n f.type ((cs.drop f.offset).take (Try.prog.cellsOf f.type)) = xs[i]?) → Tl w xs cs 0 0 d wt) :
  Opens H enc w base spare held t d wt := by
 intro fuel cs x hx
 obtain ⟨xs, n, _, rfl, hlen, hxl, hf⟩ := DataW.trod_struct ht hx
 obtain ⟨y, hy, hw⟩ := h n cs xs hlen hxl hf
 rw [List.drop_zero] at hy
 refine ⟨y, hy, ?_⟩
 rw [List.drop_zero] at hw
 simp only [Rows.uptoBulk]
 omega
instance : Inhabited S38 := ⟨z38⟩
instance : Inhabited S40 := ⟨z40⟩
instance : Inhabited S42 := ⟨z42⟩
instance : Inhabited S30 := ⟨z30⟩
instance : Inhabited S64 := ⟨z64⟩
theorem opens38 : Opens H enc w base spare held 38 k38 (fun x => x.f3.size) := by
 have h : Opens H enc w base spare held 38 k38 _ := opens_iso (fun x : S38 => (x.f0, x.f1, x.f2, x.f3)) (fun p => ⟨p.1, p.2.1, p.2.2.1, p.2.2.2⟩) (fun _ => rfl) (opens_struct Try.underlying38 (fun n cs xs hl hx hf => by
  have c : Try.prog.cellsOf 38 = 4 := by kernel_rfl
  rw [c] at hl
  exact tl_cons (opens_int (by kernel_rfl)) (by rw [hx]; decide) (by kernel_rfl) (hf 0 _ rfl) (tl_cons (opens_int (by kernel_rfl)) (by rw [hx]; decide) (by kernel_rfl) (hf 1 _ rfl) (tl_cons (opens_int (by kernel_rfl)) (by rw [hx]; decide) (by kernel_rfl) (hf 2 _ rfl) (tl_last (opens_string (by kernel_rfl)) hx (by kernel_rfl) hl (hf 3 _ rfl))))))
 intro fuel cs x hx
 obtain ⟨y, hy, hw⟩ := h fuel cs x hx
 exact ⟨y, hy, by dsimp only at hw ⊢; omega⟩
theorem opens40 : Opens H enc w base spare held 40 k40 (fun x => x.f1.f3.size) := by
 have h : Opens H enc w base spare held 40 k40 _ := opens_iso (fun x : S40 => (x.f0, x.f1)) (fun p => ⟨p.1, p.2⟩) (fun _ => rfl) (opens_struct Try.underlying40 (fun n cs xs hl hx hf => by
  have c : Try.prog.cellsOf 40 = 5 := by kernel_rfl
  rw [c] at hl
  exact tl_cons (opens_int (by kernel_rfl)) (by rw [hx]; decide) (by kernel_rfl) (hf 0 _ rfl) (tl_last opens38 hx (by kernel_rfl) hl (hf 1 _ rfl))))
 intro fuel cs x hx
 obtain ⟨y, hy, hw⟩ := h fuel cs x hx
 exact ⟨y, hy, by dsimp only at hw ⊢; omega⟩
theorem opens42 : Opens H enc w base spare held 42 k42 (fun x => x.f2.f3.size) := by
 have h : Opens H enc w base spare held 42 k42 _ := opens_iso (fun x : S42 => (x.f0, x.f1, x.f2)) (fun p => ⟨p.1, p.2.1, p.2.2⟩) (fun _ => rfl) (opens_struct Try.underlying42 (fun n cs xs hl hx hf => by
  have c : Try.prog.cellsOf 42 = 6 := by kernel_rfl
  rw [c] at hl
  exact tl_cons (opens_int (by kernel_rfl)) (by rw [hx]; decide) (by kernel_rfl) (hf 0 _ rfl) (tl_cons (opens_bool (by kernel_rfl)) (by rw [hx]; decide) (by kernel_rfl) (hf 1 _ rfl) (tl_last opens38 hx (by kernel_rfl) hl (hf 2 _ rfl)))))
 intro fuel cs x hx
 obtain ⟨y, hy, hw⟩ := h fuel cs x hx
 exact ⟨y, hy, by dsimp only at hw ⊢; omega⟩
theorem opens64 : Opens H enc w base spare held 64 k64 (fun x => 0) := by
 have h : Opens H enc w base spare held 64 k64 _ := opens_iso (fun x : S64 => (x.f0, x.f1, x.f2, x.f3, x.f4, x.f5)) (fun p => ⟨p.1, p.2.1, p.2.2.1, p.2.2.2.1, p.2.2.2.2.1, p.2.2.2.2.2⟩) (fun _ => rfl) (opens_struct Try.underlying64 (fun n cs xs hl hx hf => by
  have c : Try.prog.cellsOf 64 = 6 := by kernel_rfl
  rw [c] at hl
  exact tl_cons (opens_int (by kernel_rfl)) (by rw [hx]; decide) (by kernel_rfl) (hf 0 _ rfl) (tl_cons (opens_bool (by kernel_rfl)) (by rw [hx]; decide) (by kernel_rfl) (hf 1 _ rfl) (tl_cons (opens_int (by kernel_rfl)) (by rw [hx]; decide) (by kernel_rfl) (hf 2 _ rfl) (tl_cons (opens_bool (by kernel_rfl)) (by rw [hx]; decide) (by kernel_rfl) (hf 3 _ rfl) (tl_cons (opens_bool (by kernel_rfl)) (by rw [hx]; decide) (by kernel_rfl) (hf 4 _ rfl) (tl_last (opens_int (by kernel_rfl)) hx (by kernel_rfl) hl (hf 5 _ rfl))))))))
 intro fuel cs x hx
 obtain ⟨y, hy, hw⟩ := h fuel cs x hx
 exact ⟨y, hy, by dsimp only at hw ⊢; omega⟩
theorem wt_ints (l : List Int) : (l.map fun y => 0 + 1).sum = l.length := by induction l with | nil => rfl | cons a l ih => simp only [List.map_cons, List.sum_cons, List.length_cons] at ih ⊢; omega
theorem wt_A (l : List S40) : (l.map fun y => y.f1.f3.size + 1).sum = l.length + strA l := by
 induction l with
 | nil => rfl
 | cons a l ih => rw [strA_cons]; simp only [List.map_cons, List.sum_cons, List.length_cons] at ih ⊢; omega
theorem wt_C (l : List S42) : (l.map fun y => y.f2.f3.size + 1).sum = l.length + strC l := by
 induction l with
 | nil => rfl
 | cons a l ih => rw [strC_cons]; simp only [List.map_cons, List.sum_cons, List.length_cons] at ih ⊢; omega
theorem opens30 : Opens H enc w base spare held 30 k30 (fun x => x.f2.length + (x.f3.length + strA x.f3) + (x.f4.length + strC x.f4)) := by
 have h : Opens H enc w base spare held 30 k30 _ := opens_iso (fun x : S30 => (x.f0, x.f1, x.f2, x.f3, x.f4)) (fun p => ⟨p.1, p.2.1, p.2.2.1, p.2.2.2.1, p.2.2.2.2⟩) (fun _ => rfl) (opens_struct Try.underlying30 (fun n cs xs hl hx hf => by
  have c : Try.prog.cellsOf 30 = 5 := by kernel_rfl
  rw [c] at hl
  exact tl_cons (opens_int (by kernel_rfl)) (by rw [hx]; decide) (by kernel_rfl) (hf 0 _ rfl) (tl_cons (opens_int (by kernel_rfl)) (by rw [hx]; decide) (by kernel_rfl) (hf 1 _ rfl) (tl_cons (opens_slice (by kernel_rfl) (by kernel_rfl) (opens_int (by kernel_rfl))) (by rw [hx]; decide) (by kernel_rfl) (hf 2 _ rfl) (tl_cons (opens_slice (by kernel_rfl) (by kernel_rfl) opens40) (by rw [hx]; decide) (by kernel_rfl) (hf 3 _ rfl) (tl_last (opens_slice (by kernel_rfl) (by kernel_rfl) opens42) hx (by kernel_rfl) hl (hf 4 _ rfl)))))))
 intro fuel cs x hx
 obtain ⟨y, hy, hw⟩ := h fuel cs x hx
 refine ⟨y, hy, ?_⟩
 simp only [wt_A, wt_C] at hw
 rw [wt_ints] at hw
 dsimp only at hw ⊢
 omega
theorem wt_O (l : List S30) : (l.map fun x => x.f2.length + (x.f3.length + strA x.f3) + (x.f4.length + strC x.f4) + 1).sum = sz l := by
 induction l with
 | nil => rfl
 | cons a l ih => rw [sz_cons]; simp only [List.map_cons, List.sum_cons] at ih ⊢; unfold szO; omega
end
end Go.Proofs.Ytmjeoknamoegpaa.P
