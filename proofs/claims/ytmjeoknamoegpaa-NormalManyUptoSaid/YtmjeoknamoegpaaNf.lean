-- plain facts: what ofP makes is normal, and is its own form
import Derived.Test.YtmjeoknamoegpaaOfN
import Derived.Test.YtmjeoknamoegpaaTameB
namespace Go.Proofs.Ytmjeoknamoegpaa.P
open Go.RowKit Go.Proofs.YtmjeoknamoegpaaW.PrintWords Go.Proofs.YtmjeoknamoegpaaW.PrintLast Go.Proofs.YtmjeoknamoegpaaW.PrintMore
set_option linter.unusedVariables false
set_option linter.unusedSimpArgs false
inductive InsOk : List S30 → Prop
  | nil : InsOk []
  | snoc (I : List S30) (x : S30) : InsOk I → x.f0 = 2 → x.f1 = 0 → x.f2 ≠ [] → x.f4 = [] → (∀ y, I.getLast? = some y → keyA y.f3 ≠ keyA x.f3) → InsOk (I ++ [x])
inductive Dn : List S30 → Prop
  | nil : Dn []
  | ret (D I : List S30) (g : Int) (r : S30) : Dn D → InsOk I → 0 ≤ g → g ≤ 4611686018427387904 → r.f0 = 1 → 1 ≤ r.f1 → r.f2 = [] → r.f3 = [] → (gapP I g = [] → ∀ y, D.getLast? = some y → keyC y.f4 ≠ keyC r.f4) → Dn (D ++ gapP I g ++ [r])
theorem gapP_0 (I : List S30) : gapP I 0 = I := by unfold gapP; rw [if_neg (by omega)]
theorem gapP_pos (I : List S30) (g : Int) (h : 0 < g) : gapP I g = I ++ [⟨3, g, [], [], []⟩] := by unfold gapP; rw [if_pos (by omega)]
theorem gapP_nil {I : List S30} {g : Int} (h : gapP I g = []) (h0 : 0 ≤ g) : I = [] ∧ g = 0 := by
  unfold gapP at h
  split at h
  · simp at h
  · exact ⟨h, by omega⟩
theorem InsOk.last {I : List S30} (h : InsOk I) {y : S30} (hy : I.getLast? = some y) : y.f0 = 2 := by
  cases h with
  | nil => cases hy
  | snoc J x _ h0 =>
    rw [List.getLast?_concat] at hy
    obtain rfl := Option.some.inj hy
    exact h0
theorem getLast?_app {α : Type} (a b : List α) (h : b ≠ []) : (a ++ b).getLast? = b.getLast? := by
  rw [List.getLast?_append]
  cases hb : b.getLast? with
  | none => rw [List.getLast?_eq_none_iff] at hb; exact absurd hb h
  | some y => rfl
theorem gap_last {I : List S30} {g : Int} (h : InsOk I) (hn : gapP I g ≠ []) (D : List S30) : ∃ y, (D ++ gapP I g).getLast? = some y ∧ y.f0 ≠ 1 := by
  rw [getLast?_app _ _ hn]
  unfold gapP at hn ⊢
  split
  · exact ⟨_, List.getLast?_concat, by simp⟩
  · rename_i hg
    rw [if_neg hg] at hn
    obtain ⟨y, hy⟩ : ∃ y, I.getLast? = some y := ⟨_, List.getLast?_eq_some_getLast hn⟩
    exact ⟨y, hy, by rw [h.last hy]; decide⟩
theorem insertP_ok {I : List S30} (h : InsOk I) (l : List Int) (set : List S40) (hl : l ≠ []) : InsOk (insertP l set I) := by
  cases h with
  | nil => exact InsOk.snoc [] ⟨2, 0, l, set, []⟩ InsOk.nil rfl rfl hl rfl (by simp)
  | snoc J x hJ h0 h1 h2 h4 hk =>
    unfold insertP
    rw [List.getLast?_concat]
    dsimp only
    split
    · rw [List.dropLast_concat]
      exact InsOk.snoc J _ hJ h0 h1 (by simp [h2]) h4 hk
    · rename_i hne
      refine InsOk.snoc (J ++ [x]) ⟨2, 0, l, set, []⟩ (InsOk.snoc J x hJ h0 h1 h2 h4 hk) rfl rfl hl rfl (fun y hy => ?_)
      rw [List.getLast?_concat] at hy
      obtain rfl := Option.some.inj hy
      exact hne
theorem retainP_app {n : Int} {pt : List S42} {D I : List S30} {g : Int} (h : ∀ y, (D ++ gapP I g).getLast? = some y → ¬ (y.f0 = 1 ∧ keyC y.f4 = keyC pt)) : retainP n pt D I g = D ++ gapP I g ++ [⟨1, n, [], [], pt⟩] := by
  unfold retainP
  split
  · rename_i o ho
    rw [if_neg (h o ho)]
  · rfl
theorem retainP_ok {D I : List S30} {g : Int} (hD : Dn D) (hI : InsOk I) (h0 : 0 ≤ g) (h1 : g ≤ 4611686018427387904) (n : Int) (hn : 1 ≤ n) (hb : ∀ x ∈ D, x.f1 ≤ 2305843009213693952) (hn2 : n ≤ 2305843009213693952) (pt : List S42) : Dn (retainP n pt D I g) := by
  by_cases hm : ∃ y, (D ++ gapP I g).getLast? = some y ∧ y.f0 = 1 ∧ keyC y.f4 = keyC pt
  · obtain ⟨y, hy, hy1, hy2⟩ := hm
    by_cases hg : gapP I g = []
    · rw [hg, List.append_nil] at hy
      unfold retainP
      rw [hg, List.append_nil, hy]
      dsimp only
      rw [if_pos ⟨hy1, hy2⟩]
      cases hD with
      | nil => cases hy
      | ret D0 I0 g0 r a1 a2 a3 a4 a5 a6 a7 a8 a9 =>
        rw [List.getLast?_concat] at hy
        obtain rfl := Option.some.inj hy
        rw [List.dropLast_concat]
        have hr := hb r (by simp)
        exact Dn.ret D0 I0 g0 _ a1 a2 a3 a4 a5 (by show 1 ≤ wrap64 (r.f1 + n); rw [w64 _ (by omega)]; omega) a7 a8 a9
    · obtain ⟨z, hz, hz1⟩ := gap_last hI hg D
      rw [hz] at hy
      obtain rfl := Option.some.inj hy
      exact absurd hy1 hz1
  · rw [retainP_app (fun y hy hc => hm ⟨y, hy, hc⟩)]
    refine Dn.ret D I g ⟨1, n, [], [], pt⟩ hD hI h0 h1 rfl hn rfl rfl (fun hg y hy hk => hm ⟨y, by rw [hg, List.append_nil]; exact hy, ?_, hk⟩)
    cases hD with
    | nil => cases hy
    | ret D0 I0 g0 r a1 a2 a3 a4 a5 =>
      rw [List.getLast?_concat] at hy
      obtain rfl := Option.some.inj hy
      exact a5
def NS (s : Stt) (k : Nat) : Prop := Dn s.1 ∧ InsOk s.2.1 ∧ (0 ≤ s.2.2 ∧ s.2.2 ≤ 536870912 * (k : Int)) ∧ ∀ x ∈ s.1, x.f1 ≤ 536870912 * (k : Int)
theorem deleteP_ok (n g : Int) (k : Nat) (hk : k ≤ 100000) (h0 : 0 ≤ g) (h1 : g ≤ 536870912 * (k : Int)) (hn : 1 ≤ n) (hn2 : n ≤ 536870912) : deleteP n g = g + n := by
  unfold deleteP mx
  rw [if_neg (by omega)]
  exact w64 _ (by omega)
theorem InsOk.zero {I : List S30} (h : InsOk I) : ∀ x ∈ I, x.f1 = 0 := by
  induction h with
  | nil => intro x hx; cases hx
  | snoc J x _ _ h1 _ _ _ ih =>
    intro y hy
    rcases List.mem_append.1 hy with hy | hy
    · exact ih y hy
    · rw [List.mem_singleton.1 hy]; exact h1
theorem Dn.pos {D : List S30} (h : Dn D) : ∀ x ∈ D, 0 ≤ x.f1 := by
  induction h with
  | nil => intro x hx; cases hx
  | ret D I g r hD hI h0 h1 h2 h3 h4 h5 h6 ih =>
    intro x hx
    rcases List.mem_append.1 hx with hx | hx
    · rcases List.mem_append.1 hx with hx | hx
      · exact ih x hx
      · rcases gapP_mem hx with hx | rfl
        · rw [hI.zero x hx]; omega
        · exact h0
    · rw [List.mem_singleton.1 hx]; omega
theorem NS.step {s : Stt} {k : Nat} (h : NS s k) (o : S30) (ho : OkO o) (hk : k ≤ 100000) : NS (stepP s o) (k + 1) := by
  obtain ⟨D, I, g⟩ := s
  obtain ⟨hD, hI, ⟨h0, h1⟩, hb⟩ := h
  simp only at hD hI h0 h1 hb
  have hb' : ∀ x ∈ D, x.f1 ≤ 536870912 * ((k + 1 : Nat) : Int) := fun x hx => by have := hb x hx; omega
  unfold stepP
  rcases ho with ⟨a0, a2, a3, a1, a1'⟩ | ⟨a0, a2, a3, a4, a1, a1'⟩ | ⟨a0, a1, a4, a2⟩
  · rw [if_pos a0, if_neg (by omega)]
    refine ⟨retainP_ok hD hI h0 (by omega) o.f1 a1 (fun x hx => by have := hb x hx; omega) (by omega) o.f4, InsOk.nil, ⟨by simp, by simp only; omega⟩, ?_⟩
    have hall : ∀ x ∈ D ++ gapP I g, x.f1 ≤ 536870912 * (k : Int) := by
      intro x hx
      rcases List.mem_append.1 hx with hx | hx
      · exact hb x hx
      · rcases gapP_mem hx with hx | rfl
        · rw [hI.zero x hx]; omega
        · exact h1
    intro x hx
    simp only [retainP] at hx
    split at hx
    · rename_i y hy
      split at hx
      · rcases List.mem_append.1 hx with hx | hx
        · have := hall x (List.dropLast_subset _ hx); omega
        · rw [List.mem_singleton.1 hx]
          have hy2 := hall y (List.mem_of_getLast? hy)
          show wrap64 (y.f1 + o.f1) ≤ _
          have hyl : -9223372036854775808 ≤ y.f1 + o.f1 ∨ y.f1 + o.f1 < -9223372036854775808 := by omega
          rcases hyl with hyl | hyl
          · rw [w64 _ (by omega)]; omega
          · exfalso
            rename_i hc
            have hyD : y ∈ D ++ gapP I g := List.mem_of_getLast? hy
            rcases List.mem_append.1 hyD with hyD | hyD
            · have := hD.pos y hyD; omega
            · rcases gapP_mem hyD with hyD | rfl
              · have := hI.zero y hyD; omega
              · simp only at hyl; omega
      · rcases List.mem_append.1 hx with hx | hx
        · have := hall x hx; omega
        · rw [List.mem_singleton.1 hx]; show o.f1 ≤ _; omega
    · rcases List.mem_append.1 hx with hx | hx
      · have := hall x hx; omega
      · rw [List.mem_singleton.1 hx]; show o.f1 ≤ _; omega
  · rw [if_neg (by omega), if_neg (by omega), deleteP_ok o.f1 g k hk h0 h1 a1 a1']
    exact ⟨hD, hI, ⟨by simp only; omega, by simp only; omega⟩, hb'⟩
  · rw [if_neg (by omega), if_pos a0, if_neg a2]
    exact ⟨hD, insertP_ok hI _ _ a2, ⟨h0, by simp only; omega⟩, hb'⟩
theorem NS.fold : ∀ (l : List S30) (s : Stt) (k : Nat), NS s k → (∀ o ∈ l, OkO o) → k + l.length ≤ 100000 → NS (l.foldl stepP s) (k + l.length)
  | [], s, k, h, _, _ => h
  | o :: l, s, k, h, ho, hk => by
    have h2 := NS.fold l (stepP s o) (k + 1) (h.step o (ho o (by simp)) (by simp only [List.length_cons] at hk; omega)) (fun x hx => ho x (by simp [hx])) (by simp only [List.length_cons] at hk; omega)
    have e1 : k + (o :: l).length = k + 1 + l.length := by simp; omega
    rw [e1]
    exact h2
theorem NS.of (l : List S30) (ho : ∀ o ∈ l, OkO o) (hl : l.length ≤ 100000) : NS (foldP l) l.length := by
  have h := NS.fold l ([], [], 0) 0 ⟨Dn.nil, InsOk.nil, ⟨by simp, by simp⟩, by simp⟩ ho (by omega)
  simpa [foldP] using h
/-! ### run again -/
theorem runI (D : List S30) {I : List S30} (h : InsOk I) : I.foldl stepP (D, [], 0) = (D, I, 0) := by
  induction h with
  | nil => rfl
  | snoc J x hJ h0 h1 h2 h4 hk ih =>
    rw [List.foldl_append, ih]
    have hx : (⟨2, 0, x.f2, x.f3, []⟩ : S30) = x := by cases x; simp_all
    simp only [List.foldl_cons, List.foldl_nil, stepP]
    rw [if_neg (by omega), if_pos h0, if_neg h2]
    unfold insertP
    split
    · rename_i y hy
      rw [if_neg (hk y hy), hx]
    · rename_i hy
      rw [List.getLast?_eq_none_iff] at hy
      subst hy
      rw [hx]; rfl
theorem runG (D : List S30) {I : List S30} {g : Int} (h : InsOk I) (h0 : 0 ≤ g) (h1 : g ≤ 4611686018427387904) : (gapP I g).foldl stepP (D, [], 0) = (D, I, g) := by
  unfold gapP
  split
  · rw [List.foldl_append, runI D h]
    simp only [List.foldl_cons, List.foldl_nil, stepP]
    rw [if_neg (by decide), if_neg (by decide)]
    have : deleteP g 0 = g := by unfold deleteP mx; rw [if_neg (by omega), w64 _ (by omega)]; omega
    rw [this]
  · rw [runI D h]
    have : g = 0 := by omega
    rw [this]
theorem Dn.last {D : List S30} (h : Dn D) {y : S30} (hy : D.getLast? = some y) : y.f0 = 1 := by
  cases h with
  | nil => cases hy
  | ret D0 I0 g0 r a1 a2 a3 a4 a5 =>
    rw [List.getLast?_concat] at hy
    obtain rfl := Option.some.inj hy
    exact a5
theorem runD {D : List S30} (h : Dn D) : D.foldl stepP ([], [], 0) = (D, [], 0) := by
  induction h with
  | nil => rfl
  | ret D I g r hD hI h0 h1 h2 h3 h4 h5 h6 ih =>
    rw [List.foldl_append, List.foldl_append, ih, runG D hI h0 h1]
    simp only [List.foldl_cons, List.foldl_nil, stepP]
    have hr : (⟨1, r.f1, [], [], r.f4⟩ : S30) = r := by cases r; simp_all
    rw [if_pos h2, if_neg (by omega), retainP_app, hr]
    intro y hy hc
    by_cases hg : gapP I g = []
    · rw [hg, List.append_nil] at hy
      exact h6 hg y hy hc.2
    · obtain ⟨z, hz, hz1⟩ := gap_last hI hg D
      rw [hz] at hy
      obtain rfl := Option.some.inj hy
      exact hz1 hc.1
/-- A normal list. -/
def NF (L : List S30) : Prop := ∃ (D I : List S30) (g : Int), L = D ++ gapP I g ∧ Dn D ∧ InsOk I ∧ 0 ≤ g ∧ g ≤ 4611686018427387904 ∧ ∀ y, L.getLast? = some y → ¬ (y.f0 = 1 ∧ y.f4.length = 0)
theorem NF.self {L : List S30} (h : NF L) : ofP L = L := by
  obtain ⟨D, I, g, rfl, hD, hI, h0, h1, hl⟩ := h
  unfold ofP
  rw [List.foldl_append, runD hD, runG D hI h0 h1]
  simp only [opsP]
  split
  · rename_i o ho
    rw [if_neg (hl o ho)]
  · rfl
theorem NF.of {s : Stt} {k : Nat} (h : NS s k) (hk : k ≤ 100000) : NF (opsP s.1 s.2.1 s.2.2) := by
  obtain ⟨D, I, g⟩ := s
  obtain ⟨hD, hI, ⟨h0, h1⟩, hb⟩ := h
  simp only at hD hI h0 h1 hb ⊢
  have h2 : g ≤ 4611686018427387904 := by omega
  unfold opsP
  split
  · rename_i o ho
    split
    · rename_i hc
      by_cases hg : gapP I g = []
      · rw [hg, List.append_nil] at ho ⊢
        cases hD with
        | nil => cases ho
        | ret D0 I0 g0 r a1 a2 a3 a4 a5 a6 a7 a8 a9 =>
          rw [List.getLast?_concat] at ho
          obtain rfl := Option.some.inj ho
          rw [List.dropLast_concat]
          refine ⟨D0, I0, g0, rfl, a1, a2, a3, a4, fun y hy hcy => ?_⟩
          by_cases hg0 : gapP I0 g0 = []
          · rw [hg0, List.append_nil] at hy
            have h3 := a9 hg0 y hy
            have e1 : y.f4 = [] := List.length_eq_zero_iff.1 hcy.2
            have e2 : r.f4 = [] := List.length_eq_zero_iff.1 hc.2
            rw [e1, e2] at h3
            exact h3 rfl
          · obtain ⟨z, hz, hz1⟩ := gap_last a2 hg0 D0
            rw [hz] at hy
            obtain rfl := Option.some.inj hy
            exact hz1 hcy.1
      · obtain ⟨z, hz, hz1⟩ := gap_last hI hg D
        rw [hz] at ho
        obtain rfl := Option.some.inj ho
        exact absurd hc.1 hz1
    · rename_i hc
      refine ⟨D, I, g, rfl, hD, hI, h0, h2, fun y hy => ?_⟩
      rw [hy] at ho
      obtain rfl := Option.some.inj ho
      exact hc
  · rename_i hn
    refine ⟨D, I, g, rfl, hD, hI, h0, h2, fun y hy => ?_⟩
    rw [hy] at hn
    cases hn
theorem NF.make (l : List S30) (ho : ∀ o ∈ l, OkO o) (hl : l.length ≤ 100000) : NF (ofP l) := NF.of (NS.of l ho hl) hl
/-! ### each gap's inserts stand ahead of one delete -/
inductive Adj : List S30 → Prop
  | nil : Adj []
  | snoc (l : List S30) (x : S30) : Adj l → (∀ y, l.getLast? = some y → y.f0 = 3 → x.f0 = 1) → Adj (l ++ [x])
theorem Adj.get {l : List S30} (h : Adj l) : ∀ (i : Nat) (hi : i + 1 < l.length), (l[i]'(by omega)).f0 = 3 → (l[i + 1]).f0 = 1 := by
  induction h with
  | nil => intro i hi; simp at hi
  | snoc l x hl hx ih =>
    intro i hi h3
    rw [List.length_append, List.length_singleton] at hi
    by_cases hlt : i + 1 < l.length
    · rw [List.getElem_append_left (by omega)] at h3 ⊢
      exact ih i hlt h3
    · have e : i + 1 = l.length := by omega
      rw [List.getElem_append_left (by omega)] at h3
      rw [List.getElem_append_right (by omega)]
      simp only [e, Nat.sub_self, List.getElem_cons_zero]
      refine hx l[i] ?_ h3
      rw [List.getLast?_eq_getElem?, List.getElem?_eq_getElem (by omega)]
      congr 2
      omega
theorem adj_ins {D I : List S30} (hD : Adj D) (hd : ∀ y, D.getLast? = some y → y.f0 ≠ 3) (hI : InsOk I) : Adj (D ++ I) ∧ ∀ y, (D ++ I).getLast? = some y → y.f0 ≠ 3 := by
  induction hI with
  | nil => rw [List.append_nil]; exact ⟨hD, hd⟩
  | snoc J x hJ h0 h1 h2 h4 hk ih =>
    rw [← List.append_assoc]
    refine ⟨Adj.snoc _ x ih.1 (fun y hy h3 => absurd h3 (ih.2 y hy)), fun y hy => ?_⟩
    rw [List.getLast?_concat] at hy
    obtain rfl := Option.some.inj hy
    rw [h0]; decide
theorem adj_gap {D I : List S30} {g : Int} (hD : Adj D) (hd : ∀ y, D.getLast? = some y → y.f0 ≠ 3) (hI : InsOk I) : Adj (D ++ gapP I g) := by
  unfold gapP
  split
  · rw [← List.append_assoc]
    exact Adj.snoc _ _ (adj_ins hD hd hI).1 (fun y hy h3 => absurd h3 ((adj_ins hD hd hI).2 y hy))
  · exact (adj_ins hD hd hI).1
theorem Dn.adj {D : List S30} (h : Dn D) : Adj D := by
  induction h with
  | nil => exact Adj.nil
  | ret D I g r hD hI h0 h1 h2 h3 h4 h5 h6 ih => exact Adj.snoc _ _ (adj_gap ih (fun y hy => by rw [hD.last hy]; decide) hI) (fun _ _ _ => h2)
theorem NF.adj {L : List S30} (h : NF L) : Adj L := by
  obtain ⟨D, I, g, rfl, hD, hI, h0, h1, hl⟩ := h
  exact adj_gap hD.adj (fun y hy => by rw [hD.last hy]; decide) hI
end Go.Proofs.Ytmjeoknamoegpaa.P
