-- plain law: NormalMany (and the contract of its walk)
import Derived.Test.YtmjeoknamoegpaaSums
import Derived.Test.YtmjeoknamoegpaaManyC
namespace Go.Proofs.Ytmjeoknamoegpaa.P
open Go.RowKit Go.Proofs.YtmjeoknamoegpaaW.PrintWords Go.Proofs.YtmjeoknamoegpaaW.PrintLast Go.Proofs.YtmjeoknamoegpaaW.PrintMore
set_option linter.unusedVariables false
set_option linter.unusedSimpArgs false
theorem rubriclaw16_NormalMany.calls (k : Nat) (A0 : Option Addr) (c0 : Nat) (l0 : List S64) (A1 : Option Addr) (c1 : Nat) (l1 : List S30) (b : Bool) (r : Bool) (w : World) (hr0 : Kd.C k64 w A0 l0.length l0) (hc0 : l0.length ≤ c0) (hr1 : Kd.C k30 w A1 l1.length l1) (hc1 : l1.length ≤ c1) (h : rubriclaw16_NormalMany.f k l0 l1 b = some r) :
    Calls Try.prog 3 #[.slice A0 l0.length c0, .slice A1 l1.length c1, .bool b] w fun e w' => e = .returned (.bool r) ∧ Below w.heap.size w w' := by
  unfold rubriclaw16_NormalMany.f at h
  obtain ⟨t, ht, h⟩ := Option.bind_eq_some_iff.1 h
  cases t with
  | false =>
    rw [if_neg (by decide)] at h
    obtain rfl := Option.some.inj h
    exact many_0 A0 c0 l0 A1 c1 l1 b w k false hr0 hc0 hr1 hc1 ht
  | true =>
    rw [if_pos rfl] at h
    by_cases hl : (l1.length : Int) > 40
    · rw [if_pos hl] at h
      obtain rfl := Option.some.inj h
      exact many_1 A0 c0 l0 A1 c1 l1 b w k hr0 hc0 hr1 hc1 ht (decide_eq_true hl)
    · rw [if_neg hl] at h
      obtain ⟨a, ha, h⟩ := Option.bind_eq_some_iff.1 h
      obtain ⟨d, hd, h⟩ := Option.bind_eq_some_iff.1 h
      exact many_2 A0 c0 l0 A1 c1 l1 b w k hr0 hc0 hr1 hc1 ht (decide_eq_false hl) a d r ha hd h
theorem runIns (D : List S30) : ∀ (Q J : List S30) (a : Int), (∀ o ∈ Q, o.f0 = 2) → Q.foldl stepP (D, J, a) = (D, (Q.foldl stepP (D, J, 0)).2.1, a) ∧ Q.foldl stepP (D, J, 0) = (D, (Q.foldl stepP (D, J, 0)).2.1, 0)
  | [], J, a, _ => ⟨rfl, rfl⟩
  | o :: Q, J, a, h => by
    have h0 := h o (by simp)
    by_cases h2 : o.f2 = []
    · have e : ∀ g, stepP (D, J, g) o = (D, J, g) := fun g => by unfold stepP; rw [if_neg (by omega), if_pos h0, if_pos h2]
      simp only [List.foldl_cons, e]
      exact runIns D Q J a (fun x hx => h x (by simp [hx]))
    · have e : ∀ g, stepP (D, J, g) o = (D, insertP o.f2 o.f3 J, g) := fun g => by unfold stepP; rw [if_neg (by omega), if_pos h0, if_neg h2]
      simp only [List.foldl_cons, e]
      exact runIns D Q _ a (fun x hx => h x (by simp [hx]))
/-- The two tellings meet. -/
def Meet (m : MSt) (s : Stt) : Prop := m.1.foldl stepP ([], [], 0) = (s.1, [], 0) ∧ m.2.1.foldl stepP (s.1, [], 0) = (s.1, s.2.1, 0) ∧ m.2.2 = s.2.2 ∧ ∀ o ∈ m.2.1, o.f0 = 2
theorem meet_flush (b : Bool) {m : MSt} {s : Stt} {k : Nat} (h : Meet m s) (hs : NS s k) (hk : k ≤ 100000) : (flushM b m.1 m.2.1 m.2.2).foldl stepP ([], [], 0) = s := by
  obtain ⟨Y, Q, g⟩ := m
  obtain ⟨D, I, g2⟩ := s
  obtain ⟨h1, h2, h3, h4⟩ := h
  obtain ⟨_, _, ⟨n0, n1⟩, _⟩ := hs
  simp only at h1 h2 h3 h4 n0 n1
  subst h3
  have hd : ∀ J, 0 < g → stepP (D, J, 0) (delO g) = (D, J, g) := fun J hg => by
    unfold stepP delO
    rw [if_neg (by simp), if_neg (by simp)]
    have : deleteP g 0 = g := by unfold deleteP mx; rw [if_neg (by omega), w64 _ (by omega)]; omega
    rw [this]
  unfold flushM
  simp only [List.foldl_append, h1]
  by_cases hg : 0 < g
  · cases b with
    | true =>
      rw [if_pos ⟨hg, rfl⟩, if_neg (by simp)]
      simp only [List.foldl_cons, List.foldl_nil]
      rw [hd [] hg, (runIns D Q [] g h4).1, h2]
    | false =>
      rw [if_neg (by simp), if_pos ⟨hg, rfl⟩]
      simp only [List.foldl_cons, List.foldl_nil]
      rw [h2, hd I hg]
  · rw [if_neg (fun h => hg h.1), if_neg (fun h => hg h.1)]
    simp only [List.foldl_nil]
    rw [h2]
    have : g = 0 := by omega
    rw [this]
theorem meet_step (b : Bool) {m : MSt} {s : Stt} {k : Nat} (h : Meet m s) (hs : NS s k) (hk : k ≤ 100000) (o : S30) (ho : OkO o) : Meet (stepM b m o) (stepP s o) := by
  have hf := meet_flush b h hs hk
  obtain ⟨Y, Q, g⟩ := m
  obtain ⟨D, I, g2⟩ := s
  obtain ⟨h1, h2, h3, h4⟩ := h
  obtain ⟨_, _, ⟨n0, n1⟩, _⟩ := hs
  simp only at h1 h2 h3 h4 n0 n1 hf
  subst h3
  rcases ho with ⟨a0, a2, a3, a1, a1'⟩ | ⟨a0, a2, a3, a4, a1, a1'⟩ | ⟨a0, a1, a4, a2⟩
  · have e : stepP (D, I, g) o = (retainP o.f1 o.f4 D I g, [], 0) := by unfold stepP; rw [if_pos a0, if_neg (by omega)]
    rw [e]
    unfold stepM
    rw [if_pos a0]
    refine ⟨?_, rfl, rfl, by simp⟩
    simp only [List.foldl_append, hf, List.foldl_cons, List.foldl_nil, e]
  · have e : stepP (D, I, g) o = (D, I, deleteP o.f1 g) := by unfold stepP; rw [if_neg (by omega), if_neg (by omega)]
    rw [e]
    unfold stepM
    rw [if_neg (by omega), if_neg (by omega)]
    refine ⟨h1, h2, ?_, h4⟩
    simp only
    unfold deleteP mx
    rw [if_neg (by omega)]
  · have e : ∀ J g, stepP (D, J, g) o = (D, insertP o.f2 o.f3 J, g) := fun J g => by unfold stepP; rw [if_neg (by omega), if_pos a0, if_neg a2]
    rw [e]
    unfold stepM
    rw [if_neg (by omega), if_pos a0]
    refine ⟨h1, ?_, rfl, ?_⟩
    · simp only [List.foldl_append, h2, List.foldl_cons, List.foldl_nil, e]
    · intro x hx
      rcases List.mem_append.1 hx with hx | hx
      · exact h4 x hx
      · rw [List.mem_singleton.1 hx]; exact a0
theorem meet_fold (b : Bool) : ∀ (l : List S30) (m : MSt) (s : Stt) (k : Nat), Meet m s → NS s k → (∀ o ∈ l, OkO o) → k + l.length ≤ 100000 → Meet (l.foldl (stepM b) m) (l.foldl stepP s)
  | [], m, s, k, h, _, _, _ => h
  | o :: l, m, s, k, h, hs, ho, hk => by
    simp only [List.length_cons] at hk
    exact meet_fold b l _ _ (k + 1) (meet_step b h hs (by omega) o (ho o (by simp))) (hs.step o (ho o (by simp)) (by omega)) (fun x hx => ho x (by simp [hx])) (by omega)
theorem yM_form (b : Bool) (x : List S30) (ho : ∀ o ∈ x, OkO o) (hl : x.length ≤ 100000) : ofP (yM b x) = ofP x := by
  have h := meet_fold b x ([], [], 0) ([], [], 0) 0 ⟨rfl, rfl, rfl, by simp⟩ ⟨Dn.nil, InsOk.nil, ⟨by simp, by simp⟩, by simp⟩ ho (by omega)
  have h2 := meet_flush b h (NS.of x ho hl) hl
  unfold ofP
  have h3 : (yM b x).foldl stepP ([], [], 0) = x.foldl stepP ([], [], 0) := h2
  rw [h3]
theorem flushM_tot (b : Bool) (Y Q : List S30) (g : Int) : tot (flushM b Y Q g) = tot Y + tot Q := by
  have hd : tot [delO g] = 0 := rfl
  have h0 : tot [] = 0 := rfl
  unfold flushM
  simp only [tot_app]
  split <;> split <;> (simp only [hd, h0]; omega)
theorem foldM_tot (b : Bool) : ∀ (l : List S30) (m : MSt), tot (l.foldl (stepM b) m).1 + tot (l.foldl (stepM b) m).2.1 ≤ tot m.1 + tot m.2.1 + tot l
  | [], m => by simp [tot]
  | o :: l, m => by
    have h := foldM_tot b l (stepM b m o)
    have h2 : tot (stepM b m o).1 + tot (stepM b m o).2.1 ≤ tot m.1 + tot m.2.1 + o.f2.length := by
      have h0 : tot [] = 0 := rfl
      unfold stepM
      split
      · simp only [tot_app, flushM_tot, tot_one, h0]; omega
      · split
        · simp only [tot_app, tot_one]; omega
        · simp only; omega
    rw [List.foldl_cons, tot_cons]
    omega
theorem flushM_mem (b : Bool) {Y Q : List S30} {g : Int} {n : Nat} (h : ∀ o ∈ Y ++ Q, o.f3.length ≤ n ∧ o.f4.length ≤ n) : ∀ o ∈ flushM b Y Q g, o.f3.length ≤ n ∧ o.f4.length ≤ n := by
  intro o ho
  have hd : ∀ (p : Prop) [Decidable p], o ∈ (if p then [delO g] else []) → o.f3.length ≤ n ∧ o.f4.length ≤ n := fun p _ hp => by
    split at hp
    · rw [List.mem_singleton.1 hp]; simp [delO]
    · cases hp
  unfold flushM at ho
  rcases List.mem_append.1 ho with ho | ho
  · rcases List.mem_append.1 ho with ho | ho
    · rcases List.mem_append.1 ho with ho | ho
      · exact h o (List.mem_append_left _ ho)
      · exact hd _ ho
    · exact h o (List.mem_append_right _ ho)
  · exact hd _ ho
theorem foldM_mem (b : Bool) (n : Nat) : ∀ (l : List S30) (m : MSt), (∀ o ∈ l, o.f3.length ≤ n ∧ o.f4.length ≤ n) → (∀ o ∈ m.1 ++ m.2.1, o.f3.length ≤ n ∧ o.f4.length ≤ n) → ∀ o ∈ (l.foldl (stepM b) m).1 ++ (l.foldl (stepM b) m).2.1, o.f3.length ≤ n ∧ o.f4.length ≤ n
  | [], m, _, h => h
  | x :: l, m, hl, h => by
    refine foldM_mem b n l (stepM b m x) (fun o ho => hl o (by simp [ho])) ?_
    have hx := hl x (by simp)
    unfold stepM
    split
    · intro o ho
      simp only [List.append_nil] at ho
      rcases List.mem_append.1 ho with ho | ho
      · exact flushM_mem b h o ho
      · rw [List.mem_singleton.1 ho]; exact hx
    · split
      · intro o ho
        simp only at ho
        rcases List.mem_append.1 ho with ho | ho
        · exact h o (List.mem_append_left _ ho)
        · rcases List.mem_append.1 ho with ho | ho
          · exact h o (List.mem_append_right _ ho)
          · rw [List.mem_singleton.1 ho]; exact hx
      · exact h
theorem yM_small (b : Bool) {x : List S30} (h : x.length ≤ 20000 ∧ tot x ≤ 20000 ∧ ∀ o ∈ x, o.f3.length ≤ 20000 ∧ o.f4.length ≤ 20000) : normal_Of.f (yM b x) = some (ofP (yM b x)) := by
  have h1 := foldM_len b x ([], [], 0)
  have h2 := flushM_len b (foldM b x).1 (foldM b x).2.1 (foldM b x).2.2
  have h3 := foldM_tot b x ([], [], 0)
  have h4 := flushM_tot b (foldM b x).1 (foldM b x).2.1 (foldM b x).2.2
  have h5 := flushM_mem b (g := (foldM b x).2.2) (foldM_mem b 20000 x ([], [], 0) h.2.2 (by simp))
  have e0 : tot [] = 0 := rfl
  simp only [List.length_nil, e0] at h1 h3
  unfold normal_Of.f
  rw [if_pos]
  refine ⟨?_, ?_, fun o ho => ?_⟩
  · unfold yM; unfold foldM at h2 ⊢; omega
  · unfold yM; unfold foldM at h4 ⊢; omega
  · have := h5 o ho; omega
end Go.Proofs.Ytmjeoknamoegpaa.P
namespace Go.Proofs.Ytmjeoknamoegpaa.Pure
open Go.Proofs.Ytmjeoknamoegpaa.P
theorem NormalMany (keys : List S64) (x : List S30) (b : Bool) (h : sz x ≤ 2000000) : ∃ k, rubriclaw16_NormalMany.f k keys x b = some true := by
  refine ⟨6000002, ?_⟩
  obtain ⟨r, hr, ht⟩ := tame_some keys x h 6000002 (by omega)
  unfold rubriclaw16_NormalMany.f
  rw [hr, Option.bind_some]
  cases r with
  | false => rw [if_neg (by decide)]
  | true =>
    obtain ⟨hz, ho⟩ := ht rfl
    have hs := form_small hz ho
    have hl := (small_sz hz).1
    rw [if_pos rfl]
    split
    · rfl
    · rw [yM_small b (small_sz hz), Option.bind_some, of_some (small_sz hz), Option.bind_some, yM_form b x ho (by omega), same_self (by omega)]
end Go.Proofs.Ytmjeoknamoegpaa.Pure
