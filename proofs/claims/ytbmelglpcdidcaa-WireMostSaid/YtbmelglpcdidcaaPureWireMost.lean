/- WireMost: bytes are had just if there are no more than most, and so many as there are, they are always: for every slice of bytes and every whole number; no conditions. -/
import Derived.Test.YtbmelglpcdidcaaPx2
import Derived.Test.YtbmelglpcdidcaaMb
namespace Go.Proofs.Ytbmelglpcdidcaa.Pure
set_option linter.unusedVariables false
open Go.RowKit Go.Proofs.Ytbmelglpcdidcaa.P Go.Proofs.YtbmelglpcdidcaaW.PrintWords Go.Proofs.YtbmelglpcdidcaaW.PrintLast Go.Proofs.Ytbmelglpcdidcaa.Ma

theorem WireMost : rubriclaw02_WireMost.Pure := by
  intro l0 a1 hl hl2 hb0 h1
  have hb := wf_u8 hb0
  have w1 := wf_i64 h1
  obtain ⟨k, hk⟩ : ∃ k : Nat, k = 2 * l0.length + 100 := ⟨_, rfl⟩
  refine ⟨k, ?_⟩
  unfold rubriclaw02_WireMost.f
  split
  · rfl
  · rename_i hn
    have h10 := form_le10 (n := l0.length) (by omega)
    rw [appBytes_f (by omega) (by simp; omega)]
    simp only [Option.bind_some, List.nil_append]
    have hby : ∀ x ∈ form l0.length ++ l0, 0 ≤ x ∧ x < 256 := fun x hx => by
      rcases List.mem_append.1 hx with hx | hx
      · exact form_bytes _ x hx
      · exact hb x hx
    rw [bytes_f (by simp only [List.length_append]; omega) hby (by simp only [List.length_append]; omega) w1]
    simp only [Option.bind_some]
    have hf := bytes_form [] l0 [] a1 (by omega)
    simp only [List.nil_append, List.append_nil, List.length_nil] at hf
    rw [show (((0 : Nat)) : Int) = 0 from rfl] at hf
    rw [hf]
    by_cases h : a1 < l0.length
    · rw [if_pos h]
      simp only
      rw [if_neg (by simp; omega), if_neg (by decide), if_pos trivial]
      rfl
    · rw [if_neg h]
      simp only
      rw [if_neg (by simp; omega), if_pos trivial, if_pos trivial, if_pos (by simp only [List.length_append]; omega)]
      rfl
end Go.Proofs.Ytbmelglpcdidcaa.Pure
