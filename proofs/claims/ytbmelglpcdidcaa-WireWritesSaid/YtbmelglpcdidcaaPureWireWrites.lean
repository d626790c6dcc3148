/- WireWrites: the forms of any number, whole number and bytes, behind any bytes, are the reference's, in memory of their own: for all slices of bytes and all numbers; no conditions. -/
import Derived.Test.YtbmelglpcdidcaaPx6
import Derived.Test.YtbmelglpcdidcaaMc
namespace Go.Proofs.Ytbmelglpcdidcaa.Pure
set_option linter.unusedVariables false
open Go.RowKit Go.Proofs.Ytbmelglpcdidcaa.P Go.Proofs.YtbmelglpcdidcaaW.PrintWords Go.Proofs.YtbmelglpcdidcaaW.PrintLast Go.Proofs.Ytbmelglpcdidcaa.Ma

theorem bytes_append (a b : List Int) : strOfNums (a ++ b) = strOfNums a ++ strOfNums b := by
  apply ByteArray.ext
  apply Array.toList_inj.mp
  rw [Go.Joins.data_append, strOfNums_data, strOfNums_data, strOfNums_data, List.map_append]
theorem ref_whole_f {n : Int} (h0 : -9223372036854775808 ≤ n) (h1 : n ≤ 9223372036854775807) : rubricref02_Whole.f n = some ((zig n : Nat) : Int) := by
  unfold rubricref02_Whole.f zig
  simp only [IntKind.wrap_u64]
  by_cases h : 0 ≤ n
  · rw [if_pos h, if_pos h]; congr 1; omega
  · rw [if_neg h, if_neg h]; congr 1; unfold wrap64; omega

theorem WireWrites : rubriclaw02_WireWrites.Pure := by
  intro l0 l1 a2 a3 hl0 hr0 hb0 hl1 hr1 hb1 h2 h3
  have w2 := wf_u64 h2
  have w3 := wf_i64 h3
  obtain ⟨n, rfl⟩ := Int.eq_ofNat_of_zero_le w2.1
  refine ⟨100, ?_⟩
  unfold rubriclaw02_WireWrites.f
  have yes : rubriclaw02_WireWrites.j0 100 l0 l1 (n : Int) a3 true = some true := by
    simp [rubriclaw02_WireWrites.j0, rubriclaw02_known.f]
  split
  · exact yes
  · rename_i hn0
    by_cases hn1 : (l1.length : Int) > 2000
    · rw [show decide ((l1.length : Int) > 2000) = true from decide_eq_true hn1]; exact yes
    · rw [show decide ((l1.length : Int) > 2000) = false from decide_eq_false hn1]
      have f1 := form_le10 (n := n) (by omega)
      have f2 := form_le10 (zig_lt w3.1 w3.2)
      have f3 := form_le10 (n := l1.length) (by omega)
      simp only [rubriclaw02_WireWrites.j0, Bool.false_eq_true, if_false]
      rw [clone_f _ (by omega)]
      simp only [Option.bind_some]
      rw [app_f (by omega) (by omega) (by omega)]
      simp only [Option.bind_some]
      rw [appInt_f (by omega) w3.1 w3.2 (by omega)]
      simp only [Option.bind_some, List.nil_append, List.length_nil]
      rw [if_pos (by omega), appBytes_f (by omega) (by omega)]
      simp only [Option.bind_some]
      rw [ref_form_f (by omega) (by omega)]
      simp only [Option.bind_some]
      rw [if_pos (by rw [strOfNums_size, strOfNums_size]; omega), if_pos (by rw [bytes_append]), ref_whole_f w3.1 w3.2]
      simp only [Option.bind_some]
      rw [ref_form_f (by omega) (zig_lt w3.1 w3.2)]
      simp only [Option.bind_some]
      have e2 : IntKind.u64.wrap (l1.length : Int) = (l1.length : Int) := by rw [IntKind.wrap_u64]; omega
      rw [if_pos (by rw [strOfNums_size, strOfNums_size]; omega), if_pos (by rw [bytes_append]), e2, ref_form_f (by omega) (by omega)]
      simp only [Option.bind_some]
      rw [if_pos (by rw [strOfNums_size, strOfNums_size]; omega), if_pos (by rw [ByteArray.size_append, strOfNums_size, strOfNums_size, strOfNums_size]; omega), bytes_append, bytes_append, bne_self_eq_false]
      simp only [rubriclaw02_WireWrites.j1, Bool.false_eq_true, if_false, rubriclaw02_own.f, rubriclaw02_known.f, Option.bind_some, if_true]
end Go.Proofs.Ytbmelglpcdidcaa.Pure
