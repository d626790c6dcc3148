/- WireReads: what any bytes are read as, from any place on, is the reference's; they stay; bytes that are told are a copy: for every slice of bytes and all whole numbers; no conditions. -/
import Derived.Test.YtbmelglpcdidcaaPx5
import Derived.Test.YtbmelglpcdidcaaMc
namespace Go.Proofs.Ytbmelglpcdidcaa.Pure
set_option linter.unusedVariables false
open Go.RowKit Go.Proofs.Ytbmelglpcdidcaa.P Go.Proofs.YtbmelglpcdidcaaW.PrintWords Go.Proofs.YtbmelglpcdidcaaW.PrintLast Go.Proofs.Ytbmelglpcdidcaa.Ma

theorem ref_bytes_f {k : Nat} {l : List Int} {at_ most : Int} (hk : 2 * l.length + 20 < k) (hb : ∀ x ∈ l, 0 ≤ x ∧ x < 256) (hl : l.length ≤ 140737488351232) (hm : -9223372036854775808 ≤ most ∧ most ≤ 9223372036854775807) :
    rubricref02_Bytes.f k l at_ most = some (Ma.bytes l at_ most) := by
  unfold rubricref02_Bytes.f Ma.bytes
  rw [ref_uint_f hk hb hl]
  simp only [Option.bind_some]
  obtain ⟨v, nx, e, hu⟩ : ∃ v nx e, uint l at_ = (v, nx, e) := ⟨_, _, _, rfl⟩
  rw [hu]
  simp only
  by_cases he : e = 0
  · subst he
    obtain ⟨g1, g2, g3, g4, g5, g6, g7, g8⟩ := uint_some hb hu
    rw [if_pos rfl, if_pos rfl]
    have hw1 : IntKind.u64.wrap (wrap64 ((l.length : Int) - nx)) = (l.length : Int) - nx := by rw [IntKind.wrap_u64]; unfold wrap64; omega
    rw [hw1]
    by_cases h1 : most < 0
    · rw [if_pos h1, if_pos (Or.inl h1)]
    · have hw2 : IntKind.u64.wrap most = most := by rw [IntKind.wrap_u64]; omega
      rw [if_neg h1, hw2]
      by_cases h2 : v > most
      · rw [if_pos h2, if_pos (Or.inr (Or.inl h2))]
      · rw [if_neg h2]
        by_cases h3 : v > (l.length : Int) - nx
        · rw [if_pos h3, if_pos (Or.inr (Or.inr h3))]
        · have hw3 : wrap64 (nx + wrap64 v) = nx + v := by unfold wrap64; omega
          rw [if_neg h3, hw3, if_pos (by omega), if_pos (by omega), if_pos (by omega), if_pos (by rw [List.length_drop, List.length_take]; simp; omega), if_neg (by omega)]
          rfl
  · rw [if_neg he, if_neg he]

theorem reads_l0 (x0 x7 : List Int) (h : x7 = x0) : ∀ (d k : Nat) (x17 : List Int) (i : Int), 0 ≤ i → i ≤ x17.length → (x17.length : Int) - i = d → d < k → x17.length ≤ 140737488351232 →
    rubriclaw02_WireReads.l0 k x0 x7 x17 (x17.length : Int) i = some true := by
  intro d
  induction d with
  | zero =>
    intro k x17 i h0 h1 hd hk hl
    obtain ⟨k, rfl⟩ : ∃ m, k = m + 1 := ⟨k - 1, by omega⟩
    simp only [rubriclaw02_WireReads.l0]
    rw [if_neg (by omega), if_pos (by rw [h])]
    rfl
  | succ d ih =>
    intro k x17 i h0 h1 hd hk hl
    obtain ⟨k, rfl⟩ : ∃ m, k = m + 1 := ⟨k - 1, by omega⟩
    simp only [rubriclaw02_WireReads.l0]
    have hw : wrap64 (i + 1) = i + 1 := by unfold wrap64; omega
    rw [if_pos (by omega), if_pos h0, if_pos (by omega), hw]
    have := ih k (x17.set i.toNat ((rd x17 i + 1) % 256)) (i + 1) (by omega) (by rw [List.length_set]; omega) (by rw [List.length_set]; omega) (by omega) (by rw [List.length_set]; omega)
    rw [List.length_set] at this
    exact this

theorem WireReads : rubriclaw02_WireReads.Pure := by
  intro l0 a1 a2 hl hl2 hb0 h1 h2
  have hb := wf_u8 hb0
  have w1 := wf_i64 h1
  have w2 := wf_i64 h2
  obtain ⟨k, hk⟩ : ∃ k : Nat, k = 3 * l0.length + 100 := ⟨_, rfl⟩
  refine ⟨k + 2, ?_⟩
  unfold rubriclaw02_WireReads.f
  split
  · rfl
  · rename_i hn
    simp only [Option.bind_some, List.nil_append, List.length_nil]
    rw [if_pos (by omega), uint_f (by omega) hb (by omega), ref_uint_f (by omega) hb (by omega), int_f (by omega) hb (by omega)]
    simp only [Option.bind_some]
    obtain ⟨v, nx, e, hu⟩ : ∃ v nx e, uint l0 a1 = (v, nx, e) := ⟨_, _, _, rfl⟩
    rw [hu]
    simp only
    have hv : 0 ≤ v ∧ v < 18446744073709551616 := by
      by_cases he : e = 0
      · subst he
        obtain ⟨g1, g2, g3, g4, _⟩ := uint_some hb hu
        exact ⟨g3, g4⟩
      · have := ((uint_err hu).2.1 he).1
        omega
    rw [if_pos trivial, if_pos trivial, if_pos trivial, if_pos trivial, if_pos trivial, ref_back_f hv.1 hv.2]
    simp only [Option.bind_some, bne_self_eq_false, rubriclaw02_WireReads.j0, Bool.false_eq_true, if_false]
    rw [bytes_f (by omega) hb (by omega) w2, ref_bytes_f (by omega) hb (by omega) w2]
    simp only [Option.bind_some]
    rw [if_pos trivial, if_pos trivial, if_pos trivial]
    simp only [rubriclaw02_WireReads.j1, Bool.false_eq_true, if_false]
    have hlen : (Ma.bytes l0 a1 a2).1.length ≤ l0.length := by
      unfold Ma.bytes
      split
      · split
        · simp
        · simp only [List.length_drop, List.length_take]; omega
      · simp
    exact reads_l0 l0 l0 rfl _ k _ 0 (by omega) (by omega) (Int.sub_zero _) (by omega) (by omega)
end Go.Proofs.Ytbmelglpcdidcaa.Pure
