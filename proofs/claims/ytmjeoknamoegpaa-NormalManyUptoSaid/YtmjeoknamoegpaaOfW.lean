-- by hand: the maker's methods in one form; normal.Of
import Derived.Test.YtmjeoknamoegpaaOpsM
namespace Go.Proofs.Ytmjeoknamoegpaa.P
open Go.RowKit Go.Proofs.YtmjeoknamoegpaaW.PrintWords Go.Proofs.YtmjeoknamoegpaaW.PrintLast Go.Proofs.YtmjeoknamoegpaaW.PrintMore
set_option linter.unusedVariables false
set_option linter.unusedSimpArgs false
def retainP (n : Int) (pt : List S42) (D I : List S30) (g : Int) : List S30 :=
  match (D ++ gapP I g).getLast? with
  | some o => if o.f0 = 1 ∧ keyC o.f4 = keyC pt then (D ++ gapP I g).dropLast ++ [⟨o.f0, wrap64 (o.f1 + n), o.f2, o.f3, o.f4⟩] else D ++ gapP I g ++ [⟨1, n, [], [], pt⟩]
  | none => D ++ gapP I g ++ [⟨1, n, [], [], pt⟩]
def opsP (D I : List S30) (g : Int) : List S30 :=
  match (D ++ gapP I g).getLast? with
  | some o => if o.f0 = 1 ∧ o.f4.length = 0 then (D ++ gapP I g).dropLast else D ++ gapP I g
  | none => D ++ gapP I g
theorem last_split (l : List S30) (h : l ≠ []) : ∃ m o, l.length = m + 1 ∧ l[m]? = some o ∧ l.getLast? = some o ∧ l.dropLast = l.take m ∧ ∀ x, l.set (m : Int).toNat x = l.dropLast ++ [x] := by
  have hp := List.length_pos_iff.2 h
  refine ⟨l.length - 1, l.getLast h, by omega, ?_, List.getLast?_eq_some_getLast h, List.dropLast_eq_take, fun x => ?_⟩
  · rw [List.getElem?_eq_getElem (by omega), List.getLast_eq_getElem]
  · rw [Int.toNat_natCast]
    conv => lhs; rw [← List.dropLast_concat_getLast h]
    rw [List.set_append_right _ _ (by simp)]
    simp
theorem insert_calls (p : Nat) (D I : List S30) (g : Int) (base : Nat) (ok : Nat → Prop) (Al : Option Addr) (cl : Nat) (l : List Int) (As : Option Addr) (cs : Nat) (set : List S40) (w : World) (hM : Mk w base ok p D I g) (hbase : base ≤ w.heap.size) (hL : Kd.C (Kd.int .i32) w Al l.length l) (hcl : l.length ≤ cl) (hS : Kd.C k40 w As set.length set) (hcs : set.length ≤ cs) (hne : 0 < l.length) (hl : l.length ≤ 1000000) (hs : set.length ≤ 1000000) (hIl : I.length ≤ 900000) (hI2 : ∀ o ∈ I, o.f2.length ≤ 1000000) :
    Calls Try.prog 21 #[.pointer (some ⟨p, 0, none⟩), .slice Al l.length cl, .slice As set.length cs] w fun e w' => e = .returned (.tuple #[]) ∧ MkPost w base ok p D (insertP l set I) g w' := by
  unfold insertP
  by_cases hI : I = []
  · subst hI
    simp only [List.getLast?_nil]
    exact insert_nil p D [] g base ok Al cl l As cs set w hM hbase hL hcl hS hcs hne hl hs (by simp) rfl
  · obtain ⟨m, o, hm, ho, hgl, _, hset⟩ := last_split I hI
    rw [hgl]
    by_cases hk : keyA o.f3 = keyA set
    · simp only [if_pos hk]
      have h := insert_same p D I g base ok Al cl l As cs set w hM hbase hL hcl hS hcs hne hl hs (by omega) m o hm ho hk (hI2 o (List.mem_of_getElem? ho))
      rw [hset] at h
      exact h
    · simp only [if_neg hk]
      exact insert_new p D I g base ok Al cl l As cs set w hM hbase hL hcl hS hcs hne hl hs (by omega) m o hm ho hk
theorem retain_calls (p : Nat) (D I : List S30) (g : Int) (base : Nat) (ok : Nat → Prop) (n : Int) (Ap : Option Addr) (cp : Nat) (pt : List S42) (w : World) (hM : Mk w base ok p D I g) (hbase : base ≤ w.heap.size) (hC : ∀ w', Kept w w' ok → Below base w w' → Kd.C k42 w' Ap pt.length pt) (hcp : pt.length ≤ cp) (hn : 1 ≤ n) (hpl : pt.length ≤ 1000000) (hIl : I.length ≤ 900000) (hDl : D.length ≤ 900000) :
    Calls Try.prog 20 #[.pointer (some ⟨p, 0, none⟩), .int .i64 n, .slice Ap pt.length cp] w fun e w' => e = .returned (.tuple #[]) ∧ MkPost w base ok p (retainP n pt D I g) [] 0 w' := by
  unfold retainP
  have hgl := gapP_len I g
  by_cases h0 : D ++ gapP I g = []
  · rw [h0]
    simp only [List.getLast?_nil]
    exact retain_0 p D I g base ok n Ap cp pt w hM hbase hC hcp hn hpl (by omega) (by omega) [] h0 rfl
  · obtain ⟨m, o, hm, ho, hgl2, _, hset⟩ := last_split _ h0
    have hm1 : m + 1 ≤ 3000000 := by rw [List.length_append] at hm; omega
    rw [hgl2]
    by_cases hk : o.f0 = 1
    · by_cases hq : keyC o.f4 = keyC pt
      · simp only [if_pos (And.intro hk hq)]
        have h := retain_3 p D I g base ok n Ap cp pt w hM hbase hC hcp hn hpl (by omega) (by omega) _ rfl m o hm hm1 ho hk hq
        rw [hset] at h
        exact h
      · simp only [if_neg (fun h : o.f0 = 1 ∧ _ => hq h.2)]
        exact retain_2 p D I g base ok n Ap cp pt w hM hbase hC hcp hn hpl (by omega) (by omega) _ rfl m o hm hm1 ho hk hq
    · simp only [if_neg (fun h : o.f0 = 1 ∧ _ => hk h.1)]
      exact retain_1 p D I g base ok n Ap cp pt w hM hbase hC hcp hn hpl (by omega) (by omega) _ rfl m o hm hm1 ho hk
theorem ops_calls (p : Nat) (D I : List S30) (g : Int) (base : Nat) (ok : Nat → Prop) (w : World) (hM : Mk w base ok p D I g) (hIl : I.length ≤ 900000) (hDl : D.length ≤ 900000) (hsm : Small (D ++ gapP I g)) :
    Calls Try.prog 23 #[.pointer (some ⟨p, 0, none⟩)] w fun e w' => ∃ v : Value, e = .returned v ∧ Kd.S k30 30 w' w.heap.size (fun _ => True) v (opsP D I g) ∧ Below w.heap.size w w' := by
  unfold opsP
  by_cases h0 : D ++ gapP I g = []
  · rw [h0]
    simp only [List.getLast?_nil]
    exact ops_0 p D I g base ok w hM (by omega) (by omega) [] h0 (by intro x hx; cases hx) rfl
  · obtain ⟨m, o, hm, ho, hgl2, hdl, _⟩ := last_split _ h0
    rw [hgl2]
    by_cases hk : o.f0 = 1
    · by_cases hq : o.f4.length = 0
      · simp only [if_pos (And.intro hk hq)]
        rw [hdl]
        exact ops_3 p D I g base ok w hM (by omega) (by omega) _ rfl hsm m o hm ho hk hq
      · simp only [if_neg (fun h : o.f0 = 1 ∧ _ => hq h.2)]
        exact ops_2 p D I g base ok w hM (by omega) (by omega) _ rfl hsm m o hm ho hk hq
    · simp only [if_neg (fun h : o.f0 = 1 ∧ _ => hk h.1)]
      exact ops_1 p D I g base ok w hM (by omega) (by omega) _ rfl hsm m o hm ho hk
/-! ### calls that change nothing -/
set_option maxHeartbeats 1000000 in
set_option maxRecDepth 100000 in
theorem retain_idle (p : Nat) (D I : List S30) (g : Int) (base : Nat) (ok : Nat → Prop) (n : Int) (Ap : Option Addr) (l cp : Nat) (w : World) (hM : Mk w base ok p D I g) (hn : n < 1) :
    Calls Try.prog 20 #[.pointer (some ⟨p, 0, none⟩), .int .i64 n, .slice Ap l cp] w fun e w' => e = .returned (.tuple #[]) ∧ MkPost w base ok p D I g w' := by
  have HM := Aside0.mk hM
  clear hM
  have hn1 : decide (n < 1) = true := decide_eq_true hn
  go_enter Try.func20, Try.ntmps20
  go_wp2_with fail
  refine bodyPost_ret (results_none rfl _ _ _) rfl ?_
  exact ⟨rfl, Mk.mono HM.out (fun k hk => .inl hk), Kept.refl _ _, Below.refl _ _⟩
set_option maxHeartbeats 1000000 in
set_option maxRecDepth 100000 in
theorem insert_idle (p : Nat) (D I : List S30) (g : Int) (base : Nat) (ok : Nat → Prop) (Al : Option Addr) (cl : Nat) (As : Option Addr) (ls cs : Nat) (w : World) (hM : Mk w base ok p D I g) :
    Calls Try.prog 21 #[.pointer (some ⟨p, 0, none⟩), .slice Al 0 cl, .slice As ls cs] w fun e w' => e = .returned (.tuple #[]) ∧ MkPost w base ok p D I g w' := by
  have HM := Aside0.mk hM
  clear hM
  go_enter Try.func21, Try.ntmps21
  go_wp2_with fail
  refine bodyPost_ret (results_none rfl _ _ _) rfl ?_
  exact ⟨rfl, Mk.mono HM.out (fun k hk => .inl hk), Kept.refl _ _, Below.refl _ _⟩

/-! ### what a delta's ops come to -/
abbrev Stt := List S30 × List S30 × Int
def stepP (s : Stt) (o : S30) : Stt :=
  if o.f0 = 1 then (if o.f1 < 1 then s else (retainP o.f1 o.f4 s.1 s.2.1 s.2.2, [], 0))
  else if o.f0 = 2 then (if o.f2 = [] then s else (s.1, insertP o.f2 o.f3 s.2.1, s.2.2))
  else (s.1, s.2.1, deleteP o.f1 s.2.2)
def ofP (l : List S30) : List S30 := let s := l.foldl stepP ([], [], 0); opsP s.1 s.2.1 s.2.2
def tot (l : List S30) : Nat := (l.map fun o => o.f2.length).sum
def StOk (s : Stt) (k t : Nat) : Prop := s.1.length + s.2.1.length ≤ 2 * k ∧ ∀ x ∈ s.1 ++ s.2.1, x.f2.length ≤ t ∧ x.f3.length ≤ 100000 ∧ x.f4.length ≤ 100000
theorem gapP_mem {I : List S30} {g : Int} {x : S30} (h : x ∈ gapP I g) : x ∈ I ∨ x = ⟨3, g, [], [], []⟩ := by
  unfold gapP at h
  split at h
  · rcases List.mem_append.1 h with h | h
    · exact .inl h
    · exact .inr (by simpa using h)
  · exact .inl h
theorem StOk.step {s : Stt} {k t : Nat} (h : StOk s k t) (o : S30) (h3 : o.f3.length ≤ 100000) (h4 : o.f4.length ≤ 100000) : StOk (stepP s o) (k + 1) (t + o.f2.length) := by
  obtain ⟨D, I, g⟩ := s
  obtain ⟨hl, hx⟩ := h
  have hx' : ∀ x ∈ D ++ I, x.f2.length ≤ t + o.f2.length ∧ x.f3.length ≤ 100000 ∧ x.f4.length ≤ 100000 := fun x hx2 => ⟨by have := (hx x hx2).1; omega, (hx x hx2).2⟩
  have hD : ∀ x ∈ D ++ gapP I g, x.f2.length ≤ t + o.f2.length ∧ x.f3.length ≤ 100000 ∧ x.f4.length ≤ 100000 := by
    intro x hx2
    rcases List.mem_append.1 hx2 with h2 | h2
    · exact hx' x (List.mem_append_left _ h2)
    · rcases gapP_mem h2 with h2 | rfl
      · exact hx' x (List.mem_append_right _ h2)
      · simp
  have hgl := gapP_len I g
  simp only at hl
  unfold stepP
  split
  · split
    · exact ⟨by simp only; omega, hx'⟩
    · refine ⟨?_, ?_⟩
      · simp only [List.length_nil]
        unfold retainP
        split
        · split
          · simp only [List.length_append, List.length_dropLast, List.length_singleton]; omega
          · simp only [List.length_append, List.length_singleton]; omega
        · simp only [List.length_append, List.length_singleton]; omega
      · intro x hx2
        simp only [List.append_nil] at hx2
        unfold retainP at hx2
        split at hx2
        · rename_i b hb
          split at hx2
          · rcases List.mem_append.1 hx2 with h2 | h2
            · exact hD x (List.dropLast_subset _ h2)
            · simp only [List.mem_singleton] at h2
              subst h2
              exact hD b (List.mem_of_getLast? hb)
          · rcases List.mem_append.1 hx2 with h2 | h2
            · exact hD x h2
            · simp only [List.mem_singleton] at h2
              subst h2
              exact ⟨by simp, by simp, h4⟩
        · rcases List.mem_append.1 hx2 with h2 | h2
          · exact hD x h2
          · simp only [List.mem_singleton] at h2
            subst h2
            exact ⟨by simp, by simp, h4⟩
  · split
    · split
      · exact ⟨by simp only; omega, hx'⟩
      · refine ⟨?_, ?_⟩
        · simp only
          unfold insertP
          split
          · rename_i b hb
            have hp : I ≠ [] := fun h0 => by subst h0; cases hb
            have hp2 := List.length_pos_iff.2 hp
            split
            · simp only [List.length_append, List.length_dropLast, List.length_singleton]; omega
            · simp only [List.length_append, List.length_singleton]; omega
          · simp only [List.length_singleton]; omega
        · intro x hx2
          simp only at hx2
          rcases List.mem_append.1 hx2 with h2 | h2
          · exact hx' x (List.mem_append_left _ h2)
          · unfold insertP at h2
            split at h2
            · rename_i b hb
              have hbm := hx b (List.mem_append_right _ (List.mem_of_getLast? hb))
              split at h2
              · rcases List.mem_append.1 h2 with h2 | h2
                · exact hx' x (List.mem_append_right _ (List.dropLast_subset _ h2))
                · simp only [List.mem_singleton] at h2
                  subst h2
                  exact ⟨by simp only [List.length_append]; omega, hbm.2⟩
              · rcases List.mem_append.1 h2 with h2 | h2
                · exact hx' x (List.mem_append_right _ h2)
                · simp only [List.mem_singleton] at h2
                  subst h2
                  exact ⟨by simp, h3, by simp⟩
            · simp only [List.mem_singleton] at h2
              subst h2
              exact ⟨by simp, h3, by simp⟩
    · exact ⟨by simp only; omega, hx'⟩
theorem StOk.fold : ∀ (l : List S30) (s : Stt) (k t : Nat), StOk s k t → (∀ x ∈ l, x.f3.length ≤ 100000 ∧ x.f4.length ≤ 100000) → StOk (l.foldl stepP s) (k + l.length) (t + tot l)
  | [], s, k, t, h, _ => by simpa [tot] using h
  | o :: l, s, k, t, h, hs => by
    have h1 := h.step o (hs o (by simp)).1 (hs o (by simp)).2
    have h2 := StOk.fold l (stepP s o) (k + 1) (t + o.f2.length) h1 (fun x hx => hs x (by simp [hx]))
    have e1 : k + (o :: l).length = k + 1 + l.length := by simp; omega
    have e2 : t + tot (o :: l) = t + o.f2.length + tot l := by simp [tot]; omega
    rw [e1, e2]
    exact h2
end Go.Proofs.Ytmjeoknamoegpaa.P
