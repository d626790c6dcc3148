/- WireOnly: what is read has just those bytes as its form, and no form is the beginning of another one: for every slice of bytes and all natural numbers; no conditions. -/
import Derived.Test.YtbmelglpcdidcaaPx3
import Derived.Test.YtbmelglpcdidcaaMa
namespace Go.Proofs.Ytbmelglpcdidcaa.Pure
set_option linter.unusedVariables false
open Go.RowKit Go.Proofs.Ytbmelglpcdidcaa.P Go.Proofs.YtbmelglpcdidcaaW.PrintWords Go.Proofs.YtbmelglpcdidcaaW.PrintLast Go.Proofs.Ytbmelglpcdidcaa.Ma

theorem only_j0 (k : Nat) (hk : 11 ≤ k) (n m : Int) (hn : 0 ≤ n ∧ n < 18446744073709551616) (hm : 0 ≤ m ∧ m < 18446744073709551616) : rubriclaw02_WireOnly.j0 k n m = some true := by
  obtain ⟨k, rfl⟩ : ∃ j, k = j + 1 := ⟨k - 1, by omega⟩
  obtain ⟨n, rfl⟩ := Int.eq_ofNat_of_zero_le hn.1
  obtain ⟨m, rfl⟩ := Int.eq_ofNat_of_zero_le hm.1
  simp only [rubriclaw02_WireOnly.j0]
  rw [app_f (by omega) (by omega) (by simp), app_f (by omega) (by omega) (by simp)]
  simp only [Option.bind_some, List.nil_append, rubriclaw02_known.f]
  by_cases e : (n : Int) = m
  · rw [if_pos e]
  · rw [if_neg e]
    split
    · rename_i hl
      rw [if_pos (by omega), if_neg]
      intro h
      have h2 := str_inj (fun x hx => form_bytes m x (List.mem_of_mem_take hx)) (form_bytes n) h
      rw [Int.toNat_natCast] at h2
      have h3 : form n ++ (form m).drop (form n).length = form m ++ [] := by
        have h4 := List.take_append_drop (form n).length (form m)
        rw [h2] at h4
        rw [h4, List.append_nil]
      exact e (by have := form_inj n m _ _ h3; omega)
    · rfl

theorem WireOnly : rubriclaw02_WireOnly.Pure := by
  intro l0 a1 a2 hl hl2 hb0 h1 h2
  have hb := wf_u8 hb0
  have hk : ∃ k : Nat, k = 2 * l0.length + 100 := ⟨_, rfl⟩
  obtain ⟨k, hk⟩ := hk
  refine ⟨k, ?_⟩
  unfold rubriclaw02_WireOnly.f
  split
  · rfl
  · rename_i hn
    rw [uint_f (by omega) hb (by omega)]
    simp only [Option.bind_some]
    obtain ⟨v, nx, e, hu⟩ : ∃ v nx e, uint l0 0 = (v, nx, e) := ⟨_, _, _, rfl⟩
    rw [hu]
    simp only
    by_cases he : e = 0
    · subst he
      obtain ⟨g1, g2, g3, g4, g5, g6, g7, g8⟩ := uint_some hb hu
      rw [if_pos rfl, if_neg (by omega), if_neg (by omega), if_neg (by omega)]
      have hv : ((v.toNat : Nat) : Int) = v := by omega
      have ha := app_f (k := k) (n := v.toNat) (xs := []) (by omega) (by omega) (by simp)
      rw [hv] at ha
      rw [ha]
      simp only [Option.bind_some, List.nil_append]
      rw [if_pos (by omega), if_pos (by omega), g8]
      rw [if_pos (by simp), only_j0 k (by omega) _ _ (wf_u64 h1) (wf_u64 h2)]
    · rw [if_neg he, only_j0 k (by omega) _ _ (wf_u64 h1) (wf_u64 h2)]

end Go.Proofs.Ytbmelglpcdidcaa.Pure
