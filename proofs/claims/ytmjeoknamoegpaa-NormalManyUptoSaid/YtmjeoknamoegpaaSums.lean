-- plain facts: a normal form has its delta's runes, as much that is deleted, and no more ops
import Derived.Test.YtmjeoknamoegpaaNf
import Derived.Test.YtmjeoknamoegpaaIsN
namespace Go.Proofs.Ytmjeoknamoegpaa.P
open Go.RowKit Go.Proofs.YtmjeoknamoegpaaW.PrintWords Go.Proofs.YtmjeoknamoegpaaW.PrintLast Go.Proofs.YtmjeoknamoegpaaW.PrintMore
set_option linter.unusedVariables false
set_option linter.unusedSimpArgs false
def dl (o : S30) : Int := if o.f0 = 3 then o.f1 else 0
def del (l : List S30) : Int := (l.map dl).sum
theorem tot_app (a b : List S30) : tot (a ++ b) = tot a + tot b := by simp [tot]
theorem tot_one (o : S30) : tot [o] = o.f2.length := by simp [tot]
theorem tot_cons (o : S30) (l : List S30) : tot (o :: l) = o.f2.length + tot l := by simp [tot]
theorem del_app (a b : List S30) : del (a ++ b) = del a + del b := by simp [del]
theorem del_one (o : S30) : del [o] = dl o := by simp [del]
theorem del_cons (o : S30) (l : List S30) : del (o :: l) = dl o + del l := by simp [del]
def flat (s : Stt) : List S30 := s.1 ++ gapP s.2.1 s.2.2
theorem tot_gap (I : List S30) (g : Int) : tot (gapP I g) = tot I := by
  unfold gapP; split
  · rw [tot_app, tot_one]; rfl
  · rfl
theorem del_gap (I : List S30) (g : Int) (h0 : 0 ≤ g) : del (gapP I g) = del I + g := by
  unfold gapP; split
  · rw [del_app, del_one]; rfl
  · omega
theorem split_last {l : List S30} {o : S30} (h : l.getLast? = some o) : l = l.dropLast ++ [o] := by
  have hn : l ≠ [] := fun h2 => by subst h2; cases h
  have e := List.dropLast_concat_getLast hn
  rw [List.getLast?_eq_some_getLast hn] at h
  rw [Option.some.inj h] at e
  exact e.symm
theorem retainP_sums (n : Int) (pt : List S42) (D I : List S30) (g : Int) : tot (retainP n pt D I g) = tot (D ++ gapP I g) ∧ del (retainP n pt D I g) = del (D ++ gapP I g) ∧ (retainP n pt D I g).length ≤ (D ++ gapP I g).length + 1 := by
  unfold retainP
  generalize D ++ gapP I g = L
  split
  · rename_i o ho
    split
    · rename_i hc
      have e := split_last ho
      have e1 := congrArg tot e
      have e2 := congrArg del e
      have e3 := congrArg List.length e
      rw [tot_app, tot_one] at e1
      rw [del_app, del_one] at e2
      rw [List.length_append, List.length_singleton] at e3
      rw [tot_app, tot_one, del_app, del_one, List.length_append, List.length_singleton, e1, e2]
      refine ⟨rfl, ?_, by omega⟩
      unfold dl
      simp only
      rw [if_neg (by omega), if_neg (by omega)]
    · rw [tot_app, tot_one, del_app, del_one, List.length_append, List.length_singleton]
      refine ⟨rfl, ?_, Nat.le_refl _⟩
      show del L + dl _ = del L
      unfold dl; simp
  · rw [tot_app, tot_one, del_app, del_one, List.length_append, List.length_singleton]
    refine ⟨rfl, ?_, Nat.le_refl _⟩
    show del L + dl _ = del L
    unfold dl; simp
theorem insertP_sums (l : List Int) (set : List S40) (I : List S30) : tot (insertP l set I) = tot I + l.length ∧ del (insertP l set I) = del I ∧ (insertP l set I).length ≤ I.length + 1 := by
  unfold insertP
  split
  · rename_i o ho
    split
    · have e := split_last ho
      have e1 := congrArg tot e
      have e2 := congrArg del e
      have e3 := congrArg List.length e
      rw [tot_app, tot_one] at e1
      rw [del_app, del_one] at e2
      rw [List.length_append, List.length_singleton] at e3
      rw [tot_app, tot_one, del_app, del_one]
      refine ⟨by simp only [List.length_append]; omega, ?_, by simp only [List.length_append, List.length_singleton]; omega⟩
      rw [e2]; rfl
    · rw [tot_app, tot_one, del_app, del_one, List.length_append, List.length_singleton]
      refine ⟨rfl, ?_, Nat.le_refl _⟩
      unfold dl; simp
  · rename_i hn
    rw [List.getLast?_eq_none_iff] at hn
    subst hn
    rw [tot_one, del_one]
    refine ⟨by simp [tot], ?_, by simp⟩
    unfold dl; simp [del]
theorem gapP_length_mono (I J : List S30) (g : Int) (h : J.length ≤ I.length + 1) : (gapP J g).length ≤ (gapP I g).length + 1 := by
  unfold gapP
  split
  · simp only [List.length_append, List.length_singleton]; omega
  · exact h
theorem step_sums {s : Stt} {k : Nat} (h : NS s k) (o : S30) (ho : OkO o) (hk : k ≤ 100000) : tot (flat (stepP s o)) = tot (flat s) + o.f2.length ∧ del (flat (stepP s o)) = del (flat s) + dl o ∧ (flat (stepP s o)).length ≤ (flat s).length + 1 := by
  obtain ⟨D, I, g⟩ := s
  obtain ⟨hD, hI, ⟨h0, h1⟩, hb⟩ := h
  simp only at hD hI h0 h1 hb
  unfold stepP flat
  rcases ho with ⟨a0, a2, a3, a1, a1'⟩ | ⟨a0, a2, a3, a4, a1, a1'⟩ | ⟨a0, a1, a4, a2⟩
  · rw [if_pos a0, if_neg (by omega)]
    obtain ⟨e1, e2, e3⟩ := retainP_sums o.f1 o.f4 D I g
    simp only [gapP_0, List.append_nil]
    refine ⟨by rw [e1, a2]; rfl, ?_, e3⟩
    rw [e2]; unfold dl; rw [if_neg (by omega)]; omega
  · rw [if_neg (by omega), if_neg (by omega), deleteP_ok o.f1 g k hk h0 h1 a1 a1']
    simp only [tot_app, del_app, tot_gap, List.length_append]
    rw [del_gap _ _ (by omega), del_gap _ _ h0, a2]
    refine ⟨rfl, ?_, ?_⟩
    · unfold dl; rw [if_pos a0]; omega
    · unfold gapP
      split <;> split <;> (try simp only [List.length_append, List.length_singleton]) <;> omega
  · rw [if_neg (by omega), if_pos a0, if_neg a2]
    obtain ⟨e1, e2, e3⟩ := insertP_sums o.f2 o.f3 I
    have e4 := gapP_length_mono I (insertP o.f2 o.f3 I) g e3
    simp only [tot_app, del_app, tot_gap, List.length_append]
    rw [del_gap _ _ h0, del_gap _ _ h0, e1, e2]
    refine ⟨by omega, ?_, by omega⟩
    unfold dl; rw [if_neg (by omega)]; omega
theorem fold_sums : ∀ (l : List S30) (s : Stt) (k : Nat), NS s k → (∀ o ∈ l, OkO o) → k + l.length ≤ 100000 → tot (flat (l.foldl stepP s)) = tot (flat s) + tot l ∧ del (flat (l.foldl stepP s)) = del (flat s) + del l ∧ (flat (l.foldl stepP s)).length ≤ (flat s).length + l.length
  | [], s, k, h, _, _ => by simp [tot, del]
  | o :: l, s, k, h, ho, hk => by
    simp only [List.length_cons] at hk
    obtain ⟨a1, a2, a3⟩ := step_sums h o (ho o (by simp)) (by omega)
    obtain ⟨b1, b2, b3⟩ := fold_sums l (stepP s o) (k + 1) (h.step o (ho o (by simp)) (by omega)) (fun x hx => ho x (by simp [hx])) (by omega)
    rw [List.foldl_cons, b1, b2, a1, a2, tot_cons, del_cons, List.length_cons]
    exact ⟨by omega, by omega, by omega⟩
theorem InsOk.two {I : List S30} (h : InsOk I) : ∀ x ∈ I, x.f0 = 2 := by
  induction h with
  | nil => intro x hx; cases hx
  | snoc J x _ h0 _ _ _ _ ih =>
    intro y hy
    rcases List.mem_append.1 hy with hy | hy
    · exact ih y hy
    · rw [List.mem_singleton.1 hy]; exact h0
theorem Dn.f2 {D : List S30} (h : Dn D) : ∀ x ∈ D, x.f0 = 1 → x.f2 = [] := by
  induction h with
  | nil => intro x hx; cases hx
  | ret D I g r hD hI h0 h1 h2 h3 h4 h5 h6 ih =>
    intro x hx hx1
    rcases List.mem_append.1 hx with hx | hx
    · rcases List.mem_append.1 hx with hx | hx
      · exact ih x hx hx1
      · rcases gapP_mem hx with hx | rfl
        · rw [hI.two x hx] at hx1; exact absurd hx1 (by decide)
        · exact absurd hx1 (by simp)
    · rw [List.mem_singleton.1 hx]; exact h4
theorem opsP_sub (D I : List S30) (g : Int) : ∀ x ∈ opsP D I g, x ∈ D ++ gapP I g := by
  intro x hx
  unfold opsP at hx
  split at hx
  · split at hx
    · exact List.dropLast_subset _ hx
    · exact hx
  · exact hx
theorem ops_sums {s : Stt} {k : Nat} (h : NS s k) : tot (opsP s.1 s.2.1 s.2.2) = tot (flat s) ∧ del (opsP s.1 s.2.1 s.2.2) = del (flat s) ∧ (opsP s.1 s.2.1 s.2.2).length ≤ (flat s).length := by
  obtain ⟨D, I, g⟩ := s
  obtain ⟨hD, hI, ⟨h0, h1⟩, hb⟩ := h
  simp only at hD hI h0 h1 hb ⊢
  unfold opsP flat
  simp only
  split
  · rename_i o ho
    split
    · rename_i hc
      have e := split_last ho
      have e1 : tot (D ++ gapP I g) = tot (D ++ gapP I g).dropLast + o.f2.length := (congrArg tot e).trans (by rw [tot_app, tot_one])
      have e2 : del (D ++ gapP I g) = del (D ++ gapP I g).dropLast + dl o := (congrArg del e).trans (by rw [del_app, del_one])
      have ho2 : o.f2 = [] := by
        rcases List.mem_append.1 (List.mem_of_getLast? ho) with hm | hm
        · exact hD.f2 o hm hc.1
        · rcases gapP_mem hm with hm | rfl
          · have := hI.two o hm; have := hc.1; omega
          · rfl
      rw [ho2] at e1
      refine ⟨by rw [e1]; rfl, ?_, by rw [List.length_dropLast]; omega⟩
      rw [e2]; unfold dl; rw [if_neg (by have := hc.1; omega)]; omega
    · exact ⟨rfl, rfl, Nat.le_refl _⟩
  · exact ⟨rfl, rfl, Nat.le_refl _⟩
theorem ofP_sums (l : List S30) (ho : ∀ o ∈ l, OkO o) (hl : l.length ≤ 100000) : tot (ofP l) = tot l ∧ del (ofP l) = del l ∧ (ofP l).length ≤ l.length := by
  obtain ⟨a1, a2, a3⟩ := fold_sums l ([], [], 0) 0 ⟨Dn.nil, InsOk.nil, ⟨by simp, by simp⟩, by simp⟩ ho (by omega)
  obtain ⟨b1, b2, b3⟩ := ops_sums (NS.of l ho hl)
  have e0 : flat (([], [], 0) : Stt) = [] := by simp [flat, gapP]
  rw [e0] at a1 a2 a3
  unfold ofP
  show tot (opsP (foldP l).1 (foldP l).2.1 (foldP l).2.2) = _ ∧ _
  refine ⟨by rw [b1]; show tot (flat (l.foldl stepP _)) = _; rw [a1]; simp [tot], ?_, ?_⟩
  · show del (opsP (foldP l).1 (foldP l).2.1 (foldP l).2.2) = _
    rw [b2]; show del (flat (l.foldl stepP _)) = _; rw [a2]; simp [del]
  · show (opsP (foldP l).1 (foldP l).2.1 (foldP l).2.2).length ≤ _
    refine Nat.le_trans b3 ?_
    show (flat (l.foldl stepP _)).length ≤ _
    simpa using a3
/-! ### a tame delta's form, and its form's -/
theorem small_sz {x : List S30} (h : sz x ≤ 20000) : x.length ≤ 20000 ∧ tot x ≤ 20000 ∧ ∀ o ∈ x, o.f3.length ≤ 20000 ∧ o.f4.length ≤ 20000 := by
  refine ⟨Nat.le_trans (len_sz x) h, ?_, fun o ho => ?_⟩
  · refine Nat.le_trans ?_ h
    clear h
    induction x with
    | nil => simp [tot]
    | cons o l ih =>
      have hO : szO o = 1 + o.f2.length + o.f3.length + o.f4.length + strA o.f3 + strC o.f4 := rfl
      rw [tot_cons, sz_cons]; omega
  · have h1 := sz_mem ho
    have hO : szO o = 1 + o.f2.length + o.f3.length + o.f4.length + strA o.f3 + strC o.f4 := rfl
    omega
theorem of_some {x : List S30} (h : x.length ≤ 20000 ∧ tot x ≤ 20000 ∧ ∀ o ∈ x, o.f3.length ≤ 20000 ∧ o.f4.length ≤ 20000) : normal_Of.f x = some (ofP x) := by
  unfold normal_Of.f
  rw [if_pos ⟨by omega, by omega, fun o ho => by have := h.2.2 o ho; omega⟩]
theorem ofP_mem34 (l : List S30) (n : Nat) (h : ∀ o ∈ l, o.f3.length ≤ n ∧ o.f4.length ≤ n) : ∀ o ∈ ofP l, o.f3.length ≤ n ∧ o.f4.length ≤ n := by
  have hf : ∀ (l : List S30) (s : Stt), (∀ o ∈ l, o.f3.length ≤ n ∧ o.f4.length ≤ n) → (∀ o ∈ s.1 ++ s.2.1, o.f3.length ≤ n ∧ o.f4.length ≤ n) → ∀ o ∈ (l.foldl stepP s).1 ++ (l.foldl stepP s).2.1, o.f3.length ≤ n ∧ o.f4.length ≤ n := by
    intro l
    induction l with
    | nil => intro s _ hs; exact hs
    | cons o l ih =>
      intro s hl hs
      refine ih (stepP s o) (fun x hx => hl x (by simp [hx])) ?_
      have ho := hl o (by simp)
      obtain ⟨D, I, g⟩ := s
      simp only at hs
      have hG : ∀ x ∈ D ++ gapP I g, x.f3.length ≤ n ∧ x.f4.length ≤ n := by
        intro x hx
        rcases List.mem_append.1 hx with hx | hx
        · exact hs x (List.mem_append_left _ hx)
        · rcases gapP_mem hx with hx | rfl
          · exact hs x (List.mem_append_right _ hx)
          · simp
      unfold stepP
      split
      · split
        · exact hs
        · intro x hx
          simp only [List.append_nil] at hx
          unfold retainP at hx
          split at hx
          · rename_i b hb
            split at hx
            · rcases List.mem_append.1 hx with hx | hx
              · exact hG x (List.dropLast_subset _ hx)
              · rw [List.mem_singleton.1 hx]; exact hG b (List.mem_of_getLast? hb)
            · rcases List.mem_append.1 hx with hx | hx
              · exact hG x hx
              · rw [List.mem_singleton.1 hx]; exact ⟨by simp, ho.2⟩
          · rcases List.mem_append.1 hx with hx | hx
            · exact hG x hx
            · rw [List.mem_singleton.1 hx]; exact ⟨by simp, ho.2⟩
      · split
        · split
          · exact hs
          · intro x hx
            simp only at hx
            rcases List.mem_append.1 hx with hx | hx
            · exact hs x (List.mem_append_left _ hx)
            · unfold insertP at hx
              split at hx
              · rename_i b hb
                split at hx
                · rcases List.mem_append.1 hx with hx | hx
                  · exact hs x (List.mem_append_right _ (List.dropLast_subset _ hx))
                  · rw [List.mem_singleton.1 hx]; exact hs b (List.mem_append_right _ (List.mem_of_getLast? hb))
                · rcases List.mem_append.1 hx with hx | hx
                  · exact hs x (List.mem_append_right _ hx)
                  · rw [List.mem_singleton.1 hx]; exact ⟨ho.1, by simp⟩
              · rw [List.mem_singleton.1 hx]; exact ⟨ho.1, by simp⟩
        · exact hs
  intro o ho
  have h2 := opsP_sub _ _ _ o ho
  have h3 := hf l ([], [], 0) h (by simp)
  rcases List.mem_append.1 h2 with h2 | h2
  · exact h3 o (List.mem_append_left _ h2)
  · rcases gapP_mem h2 with h2 | rfl
    · exact h3 o (List.mem_append_right _ h2)
    · simp
theorem form_small {x : List S30} (h : sz x ≤ 20000) (ho : ∀ o ∈ x, OkO o) : (ofP x).length ≤ 20000 ∧ tot (ofP x) ≤ 20000 ∧ ∀ o ∈ ofP x, o.f3.length ≤ 20000 ∧ o.f4.length ≤ 20000 := by
  obtain ⟨h1, h2, h3⟩ := small_sz h
  obtain ⟨a1, a2, a3⟩ := ofP_sums x ho (by omega)
  exact ⟨by omega, by omega, ofP_mem34 x 20000 h3⟩
theorem same_some {x y : List S30} (h : x.length ≤ 3000000) : ops_Same.f x y = some (eqB (x.map keyO) (y.map keyO)) := by
  unfold ops_Same.f
  rw [if_pos h]
theorem same_self {x : List S30} (h : x.length ≤ 3000000) : ops_Same.f x x = some true := by
  rw [same_some h, eqB_true.2 rfl]
end Go.Proofs.Ytmjeoknamoegpaa.P
