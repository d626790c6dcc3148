/- WireBack: forms are read again, one behind the other, whatever stands ahead and behind: for all slices of bytes and all numbers; no conditions. -/
import Derived.Test.YtbmelglpcdidcaaPx2
import Derived.Test.YtbmelglpcdidcaaMb
namespace Go.Proofs.Ytbmelglpcdidcaa.Pure
set_option linter.unusedVariables false
open Go.RowKit Go.Proofs.Ytbmelglpcdidcaa.P Go.Proofs.YtbmelglpcdidcaaW.PrintWords Go.Proofs.YtbmelglpcdidcaaW.PrintLast Go.Proofs.Ytbmelglpcdidcaa.Ma

theorem WireBack : rubriclaw02_WireBack.Pure := by
  intro l0 l1 l2 a3 a4 hl0 hr0 hb0 hl1 hr1 hb1 hl2 hr2 hb2 h3 h4
  have b0 := wf_u8 hb0
  have b1 := wf_u8 hb1
  have b2 := wf_u8 hb2
  have w3 := wf_u64 h3
  have w4 := wf_i64 h4
  obtain ⟨n, rfl⟩ := Int.eq_ofNat_of_zero_le w3.1
  obtain ⟨k, hk⟩ : ∃ k : Nat, k = 20000 + 2 * l0.length + 2 * l1.length + 2 * l2.length := ⟨_, rfl⟩
  refine ⟨k + 4, ?_⟩
  unfold rubriclaw02_WireBack.f
  have yes : rubriclaw02_WireBack.j0 (k + 4) l0 l1 l2 (n : Int) a4 true = some true := by
    simp [rubriclaw02_WireBack.j0, rubriclaw02_known.f]
  split
  · exact yes
  · split
    · exact yes
    · rename_i hn0 hn1
      by_cases hn2 : (l2.length : Int) > 2000
      · rw [show decide ((l2.length : Int) > 2000) = true from decide_eq_true hn2]; exact yes
      · rw [show decide ((l2.length : Int) > 2000) = false from decide_eq_false hn2]
        have f1 := form_le10 (n := n) (by omega)
        have f2 := form_le10 (zig_lt w4.1 w4.2)
        have f3 := form_le10 (n := l1.length) (by omega)
        simp only [rubriclaw02_WireBack.j0, Bool.false_eq_true, if_false]
        rw [app_f (by omega) (by omega) (by omega)]
        simp only [Option.bind_some]
        rw [appInt_f (by omega) w4.1 w4.2 (by simp only [List.length_append]; omega)]
        simp only [Option.bind_some]
        rw [appBytes_f (by omega) (by simp only [List.length_append]; omega)]
        simp only [Option.bind_some]
        rw [if_pos (by simp only [List.length_append]; omega)]
        generalize hb : l0 ++ form n ++ form (zig a4) ++ form l1.length ++ l1 ++ l2 = b
        have hby : ∀ x ∈ b, 0 ≤ x ∧ x < 256 := by
          intro x hx
          rw [← hb] at hx
          simp only [List.mem_append] at hx
          rcases hx with ((((hx | hx) | hx) | hx) | hx) | hx
          · exact b0 x hx
          · exact form_bytes _ x hx
          · exact form_bytes _ x hx
          · exact form_bytes _ x hx
          · exact b1 x hx
          · exact b2 x hx
        have hbl : b.length = l0.length + (form n).length + (form (zig a4)).length + (form l1.length).length + l1.length + l2.length := by rw [← hb]; simp only [List.length_append]
        rw [uint_f (by omega) hby (by omega)]
        simp only [Option.bind_some]
        have u1 : uint b (l0.length : Int) = ((n : Int), (l0.length : Int) + (form n).length, 0) := by
          rw [← hb]
          have := uint_form l0 (form (zig a4) ++ form l1.length ++ l1 ++ l2) n (by omega)
          simp only [← List.append_assoc] at this
          exact this
        rw [u1]
        simp only
        rw [if_pos trivial, show ((n : Int) != n) = false by simp]
        simp only [rubriclaw02_WireBack.j1, Bool.false_eq_true, if_false]
        rw [int_f (by omega) hby (by omega)]
        simp only [Option.bind_some]
        have u2 : uint b ((l0.length : Int) + (form n).length) = (((zig a4 : Nat) : Int), ((l0.length : Int) + (form n).length) + (form (zig a4)).length, 0) := by
          rw [← hb]
          have := uint_form (l0 ++ form n) (form l1.length ++ l1 ++ l2) (zig a4) (zig_lt w4.1 w4.2)
          simp only [← List.append_assoc, List.length_append, Int.natCast_add] at this
          exact this
        rw [u2]
        simp only
        rw [if_pos trivial, zag_zig, show (a4 != a4) = false by simp]
        simp only [rubriclaw02_WireBack.j2, Bool.false_eq_true, if_false]
        rw [bytes_f (by omega) hby (by omega) (by omega)]
        simp only [Option.bind_some]
        have u3 : ∀ most : Int, Ma.bytes b ((l0.length : Int) + (form n).length + (form (zig a4)).length) most = if most < l1.length then ([], 0, 3) else (l1, ((l0.length : Int) + (form n).length + (form (zig a4)).length) + (form l1.length).length + l1.length, 0) := by
          intro most
          rw [← hb]
          have := bytes_form (l0 ++ form n ++ form (zig a4)) l1 l2 most (by omega)
          simp only [List.length_append, Int.natCast_add] at this
          exact this
        rw [u3, if_neg (show ¬ ((l1.length : Int) < l1.length) by omega)]
        simp only
        rw [if_pos trivial, if_pos trivial]
        have e1 : wrap64 ((b.length : Int) - (l2.length : Int)) = ((l0.length : Int) + (form n).length + (form (zig a4)).length) + (form l1.length).length + l1.length := by unfold wrap64; omega
        rw [e1, bne_self_eq_false]
        simp only [rubriclaw02_WireBack.j3, Bool.false_eq_true, if_false]
        have e2 : IntKind.u64.wrap (l1.length : Int) = (l1.length : Int) := by rw [IntKind.wrap_u64]; omega
        rw [e2, app_f (by omega) (by omega) (by simp)]
        simp only [Option.bind_some, List.nil_append]
        have e3 : wrap64 (wrap64 ((l0.length : Int) + (form n).length + (form (zig a4)).length + (form l1.length).length + l1.length - (l1.length : Int)) - ((form l1.length).length : Int)) = (l0.length : Int) + (form n).length + (form (zig a4)).length := by unfold wrap64; omega
        have e4 : wrap64 ((l1.length : Int) - 1) = (l1.length : Int) - 1 := by unfold wrap64; omega
        rw [e3, e4, bytes_f (by omega) hby (by omega) (by omega), u3, if_pos (show (l1.length : Int) - 1 < l1.length by omega)]
        simp only [Option.bind_some]
        rfl
end Go.Proofs.Ytbmelglpcdidcaa.Pure
