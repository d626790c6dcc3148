import Derived.Test.YtpnoeggnniagfaaQ2
namespace Go.Proofs.Ytpnoeggnniagfaa.P
open Go.RowKit Go.Proofs.YtpnoeggnniagfaaW.PrintWords Go.Proofs.YtpnoeggnniagfaaW.PrintLast Go.Proofs.YtpnoeggnniagfaaW.PrintMore
set_option linter.unusedVariables false
theorem foldl_ofStep_len (cs : List S26) : ∀ out : List S34, (cs.foldl ofStep out).length ≤ out.length + cs.length := fun out =>
  foldl_len ofStep (fun o c => addP_length _ _ _) cs out
theorem ofP_len (cells : List S26) : (ofP cells).length ≤ cells.length := by
  have := foldl_ofStep_len cells []
  simpa [ofP] using this
theorem ofP_sets (cells : List S26) (hc : ∀ c ∈ cells, c.f1.length ≤ 30) : ∀ b ∈ ofP cells, b.f1.length ≤ 30 := by
  have gen : ∀ (cs : List S26) (out : List S34), (∀ c ∈ cs, c.f1.length ≤ 30) → (∀ b ∈ out, b.f1.length ≤ 30) → ∀ b ∈ cs.foldl ofStep out, b.f1.length ≤ 30 := by
    intro cs
    induction cs with
    | nil => intro out _ h; exact h
    | cons c cs ih => intro out h1 h2; exact ih _ (fun d hd => h1 d (by simp [hd])) (ofStep_sets out c h2 (h1 c (by simp)))
  exact gen cells [] hc (by simp)
theorem len_eq (l : List S34) (hf : Fits l) (hl : l.length * 32 ≤ 140737488351232) : blocks_Len.f l = some ((rep l).length : Int) := by
  unfold blocks_Len.f
  rw [if_pos hl, atP_eq l l.length (fun b hb => by have := hf.1 b hb; omega) hf.2, List.take_length]
theorem at_eq (l : List S34) (hf : Fits l) (hl : l.length * 32 ≤ 140737488351232) (hs : ∀ b ∈ l, b.f1.length ≤ 30) (i : Int) (h0 : 0 ≤ i) (h1 : i < (rep l).length) :
    ∃ set, blocks_At.f l i = some (set, true) ∧ (rep l)[i.toNat]? = some (keyL set) ∧ set.length ≤ 30 := by
  have h := at_hit l (fun b hb => by have := hf.1 b hb; omega) hf.2 i
  unfold blocks_At.f
  rw [if_pos ⟨hl, fun b hb => by have := hs b hb; omega⟩]
  split at h
  · rename_i x hx
    rw [hx]
    exact ⟨_, rfl, h.2, hs _ (List.getElem_mem x.2)⟩
  · exact absurd ⟨h0, h1⟩ h
theorem cells_l1 (cells : List S26) (hl : cells.length ≤ 500) (hc : ∀ c ∈ cells, c.f1.length ≤ 30) : ∀ (k i : Nat), i ≤ cells.length → cells.length - i + 40 ≤ k → rubriclaw12_BlocksCells.l1 k cells (ofP cells) (cells.length : Int) (i : Int) = some true
  | 0, i, _, hk => by omega
  | k + 1, i, hi, hk => by
    unfold rubriclaw12_BlocksCells.l1
    by_cases h : i < cells.length
    · obtain ⟨r1, r2, r3⟩ := ofP_rep cells (by omega)
      have hol := ofP_len cells
      obtain ⟨set, e1, e2, e3⟩ := at_eq (ofP cells) r2 (by omega) (ofP_sets cells hc) (i : Int) (by omega) (by rw [r1, List.length_map]; omega)
      rw [r1, List.getElem?_map, Int.toNat_natCast, List.getElem?_eq_getElem h] at e2
      have e2' : cellKey cells[i] = keyL set := by simpa using e2
      have hci := hc _ (List.getElem_mem h)
      rw [if_pos (by omega), e1]
      simp only [Option.bind_some]
      rw [if_pos trivial, if_pos (by omega), if_pos (by omega), rd26_get cells i h, wrap64_succ i (by omega), cells_l1 cells hl hc k (i + 1) (by omega) (by omega), sameR_eq k set _ (by omega) (by omega)]
      unfold cellKey at e2'
      by_cases h10 : cells[i].f0 = 10
      · rw [if_pos h10] at e2' ⊢
        have : set.length = 0 := by have := congrArg List.length e2'; rw [keyL_length, keyL_length] at this; simpa using this.symm
        rw [if_pos (by omega)]
      · rw [if_neg h10] at e2' ⊢
        simp [e2']
    · rw [if_neg (by omega)]
      rfl
theorem cells_l0 (cells : List S26) (hl : cells.length ≤ 500) : ∀ (k i : Nat), i ≤ cells.length → cells.length - i + 1000 ≤ k → (∀ j (hj : j < cells.length), j < i → (cells[j]).f1.length ≤ 30) → rubriclaw12_BlocksCells.l0 k cells (cells.length : Int) (i : Int) = some true
  | 0, i, _, hk, _ => by omega
  | k + 1, i, hi, hk, hp => by
    unfold rubriclaw12_BlocksCells.l0
    by_cases h : i < cells.length
    · rw [if_pos (by omega), if_pos (by omega), if_pos (by omega), rd26_get cells i h]
      by_cases h30 : ((cells[i]).f1.length : Int) > 30
      · rw [if_pos h30]; rfl
      · rw [if_neg h30, wrap64_succ i (by omega)]
        exact cells_l0 cells hl k (i + 1) (by omega) (by omega) (fun j hj hji => by
          rcases Nat.lt_or_ge j i with h1 | h1
          · exact hp j hj h1
          · obtain rfl : j = i := by omega
            omega)
    · have hc : ∀ c ∈ cells, c.f1.length ≤ 30 := fun c hcm => by
        obtain ⟨j, hj, rfl⟩ := List.getElem_of_mem hcm
        exact hp j hj (by omega)
      obtain ⟨r1, r2, r3⟩ := ofP_rep cells (by omega)
      have hol := ofP_len cells
      have hss := ofP_sets cells hc
      rw [if_neg (by omega), Of_eq cells (by omega) hc k (by omega), OfR_eq cells (by omega) hc k (by omega)]
      simp only [Option.bind_some]
      rw [sameB_eq (ofP cells) (ofP cells) (by omega) hss k (by omega)]
      simp only [Option.bind_some, same34, decide_true, if_true]
      rw [proper_eq (ofP cells) (by omega) hss r2.1 r3 k (by omega)]
      simp only [Option.bind_some, if_true]
      rw [len_eq (ofP cells) r2 (by omega), r1]
      simp only [Option.bind_some, List.length_map]
      obtain ⟨k', rfl⟩ : ∃ k', k = k' + 1 := ⟨k - 1, by omega⟩
      simp only [rubriclaw12_BlocksCells.j1]
      rw [if_neg (by simp)]
      exact cells_l1 cells hl hc k' 0 (by omega) (by omega)
end Go.Proofs.Ytpnoeggnniagfaa.P
namespace Go.Proofs.Ytpnoeggnniagfaa
open Go.RowKit
/-- The plain law. -/
theorem Pure.BlocksCells (l0 : List P.S26) : ∃ k, P.rubriclaw12_BlocksCells.f k l0 = some true := by
  refine ⟨2000, ?_⟩
  unfold P.rubriclaw12_BlocksCells.f
  by_cases h : (l0.length : Int) > 500
  · rw [if_pos h]; rfl
  · rw [if_neg h]
    exact P.cells_l0 l0 (by omega) 2000 0 (by omega) (by omega) (fun j hj h0 => by omega)
end Go.Proofs.Ytpnoeggnniagfaa
