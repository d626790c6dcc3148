-- an argument that is a slice of structs, opened to a row that is read, and how great it is
import Derived.Deep.Slices
import Derived.Deep.Fields
import Derived.ChangeSame
import Derived.OpenShut
import Derived.Test.YtmjeoknamoegpaaRows
import Derived.Test.YtmjeoknamoegpaaTameA
namespace Go.Proofs.Ytmjeoknamoegpaa.bulks

theorem one_le {H : Type} (d : DataW H) : 1 ≤ Rows.uptoBulk d := by
  cases d with
  | lit l => cases l <;> simp [Rows.uptoBulk]
  | nil => simp [Rows.uptoBulk]
  | ptr d => simp [Rows.uptoBulk]
  | slice elems spare => simp [Rows.uptoBulk]
  | agg parts => simp [Rows.uptoBulk]
  | iface t d => simp [Rows.uptoBulk]
  | map entries => simp [Rows.uptoBulk]
  | held h => simp [Rows.uptoBulk]

/-- a part's bulk is at most the whole's -/
theorem part_le {H : Type} {d : DataW H} {l : List (DataW H)} (h : d ∈ l) : Rows.uptoBulk d ≤ Rows.uptoBulkAll l := by
  induction l with
  | nil => cases h
  | cons x r ih =>
    simp only [Rows.uptoBulkAll]
    cases List.mem_cons.1 h with
    | inl e => subst e; omega
    | inr e => have := ih e; omega

theorem append {H : Type} (l r : List (DataW H)) : Rows.uptoBulkAll (l ++ r) = Rows.uptoBulkAll l + Rows.uptoBulkAll r := by
  induction l with
  | nil => simp [Rows.uptoBulkAll]
  | cons x l ih => simp only [List.cons_append, Rows.uptoBulkAll, ih]; omega

/-- so many values at the most -/
theorem length_le {H : Type} (l : List (DataW H)) : l.length ≤ Rows.uptoBulkAll l := by
  induction l with
  | nil => simp [Rows.uptoBulkAll]
  | cons x r ih => have := one_le x; simp only [Rows.uptoBulkAll, List.length_cons]; omega

/-- a slice's places, and what they hold -/
theorem slice_le {H : Type} (elems spare : List (DataW H)) : elems.length + spare.length + 1 ≤ Rows.uptoBulk (.slice elems spare) := by
  have h1 := length_le elems
  have h2 := length_le spare
  simp only [Rows.uptoBulk]
  omega
theorem slice_elems {H : Type} (elems spare : List (DataW H)) : Rows.uptoBulkAll elems + 1 ≤ Rows.uptoBulk (.slice elems spare) := by
  simp only [Rows.uptoBulk]
  omega

/-- a string's letters -/
theorem string_eq {H : Type} (bytes : List UInt8) : Rows.uptoBulk (DataW.lit (H := H) (.string bytes)) = bytes.length + 1 := by
  simp [Rows.uptoBulk]

/-- THE BOUND, as the builder hands it over ('hk') -/
theorem bound {H : Type} {l : List (DataW H)} (hk : Rows.uptoSmall H l = true) : Rows.uptoBulkAll l ≤ 1048576 := by
  simpa [Rows.uptoSmall] using hk

/-- ROOM: a slice of n elements of b bytes, grown by append: below the 2^48 bytes that append, make and a Builder bear. Here n up to 2^21, b up to 4,096: put your own numbers. -/
theorem room {n b : Nat} (hn : n ≤ 2097152) (hb : b ≤ 4096) : (n + n / 4 + 192) * b ≤ 281474976710656 := by
  have h : (n + n / 4 + 192) * b ≤ 2621632 * 4096 := Nat.mul_le_mul (by omega) hb
  omega

end Go.Proofs.Ytmjeoknamoegpaa.bulks
namespace Go.Proofs.Ytmjeoknamoegpaa.P
open Go.RowKit Go.ChangeShapes Go.WideShapes Go.Deep Go.Proofs.YtmjeoknamoegpaaW.PrintWords Go.Proofs.YtmjeoknamoegpaaW.PrintLast Go.Proofs.YtmjeoknamoegpaaW.PrintMore
set_option linter.unusedVariables false
section
variable {H : Type} {enc : TypeId × Value → H} {w : World} {base : Nat} {spare : Nat → Bool} {held : Bool}
def Opens (H : Type) (enc : TypeId × Value → H) (w : World) (base : Nat) (spare : Nat → Bool) (held : Bool) {α : Type} (t : TypeId) (d : Kd α) (wt : α → Nat) : Prop :=
  ∀ (fuel : Nat) (cs : List Value) (x : DataW H × List MemPlace), DataW.trod enc Try.prog w base spare held fuel t cs = some x → ∃ y : α, d.K w y cs ∧ wt y + 1 ≤ Rows.uptoBulk x.1
theorem opens_int {t : TypeId} {k : IntKind} (ht : Try.prog.underlying t = some (.int k)) : Opens H enc w base spare held t (Kd.int k) (fun _ => 0) := by
  intro fuel cs x h
  obtain ⟨n, rfl, _, _⟩ := DataW.trod_int ht h
  exact ⟨n, rfl, by have := bulks.one_le x.1; omega⟩
theorem opens_bool {t : TypeId} (ht : Try.prog.underlying t = some .bool) : Opens H enc w base spare held t Kd.bool (fun _ => 0) := by
  intro fuel cs x h
  obtain ⟨n, rfl, _⟩ := DataW.trod_bool ht h
  exact ⟨n, rfl, by have := bulks.one_le x.1; omega⟩
theorem opens_string {t : TypeId} (ht : Try.prog.underlying t = some .string) : Opens H enc w base spare held t Kd.string (fun s => s.size) := by
  intro fuel cs x h
  obtain ⟨s, rfl, rfl, _⟩ := DataW.trod_string ht h
  refine ⟨s, rfl, ?_⟩
  rw [bulks.string_eq, Array.length_toList]
  exact Nat.le_refl _
theorem sum_bulk {g : Nat → Nat} {D : Nat → DataW H} : ∀ L : List Nat, (∀ i ∈ L, g i ≤ Rows.uptoBulk (D i)) → (L.map g).sum ≤ Rows.uptoBulkAll (L.map D)
  | [], _ => by simp
  | i :: L, h => by
    have h1 := h i (by simp)
    have h2 := sum_bulk L (fun j hj => h j (by simp [hj]))
    simp only [List.map_cons, List.sum_cons, Rows.uptoBulkAll]
    omega
theorem opens_slice {α : Type} [Inhabited α] {t e : TypeId} {d : Kd α} {wt : α → Nat} (ht : Try.prog.underlying t = some (.slice e)) (hsz : Try.prog.cellsOf e = d.sz) (he : Opens H enc w base spare held e d wt) : Opens H enc w base spare held t (Kd.slice e d) (fun l => (l.map fun y => wt y + 1).sum) := by
  intro fuel cs x h
  rcases open_slice ht h with ⟨rfl, _⟩ | ⟨a, len, cap, m, n, D, Pl, rfl, hb, hl, hm, hmm, hx, hi⟩
  · exact ⟨[], ⟨none, 0, rfl, by simp, Kd.C_nil _ _⟩, by have := bulks.one_le x.1; simp; omega⟩
  · have hlm : len ≤ m := by rw [hmm]; split <;> omega
    have h1 : ∀ i : Nat, ∃ y : α × List Value, i < len → (d.K w y.1 y.2 ∧ y.2.length = d.sz ∧ ∀ j u, y.2[j]? = some u → w.cell? (a.add (i * d.sz + j)) = some u) ∧ wt y.1 + 1 ≤ Rows.uptoBulk (D i) := by
      intro i
      by_cases hil : i < len
      · obtain ⟨cs', hc, ht'⟩ := hi i (by omega)
        obtain ⟨y, hy, hyw⟩ := he _ _ _ ht'
        obtain ⟨_, hcl, hat⟩ := World.cells?_some hc
        rw [hsz] at hcl hat
        refine ⟨(y, cs'), fun _ => ⟨⟨hy, hcl, fun j u hu => ?_⟩, hyw⟩⟩
        have hj : j < d.sz := by have := (List.getElem?_eq_some_iff.1 hu).1; dsimp only at this; omega
        rw [← Go.Deep.add_add, hat j hj]; exact hu
      · exact ⟨(default, []), fun hh => absurd hh hil⟩
    obtain ⟨f, hf⟩ := Classical.skolem.1 h1
    refine ⟨(List.range len).map fun i => (f i).1, ⟨some a, cap, by simp, by simpa using hl, by simp, ?_, fun hp => ⟨a, rfl, fun j p hj => ?_⟩⟩, ?_⟩
    · simp only [List.length_map, List.length_range]
      have : maxLen ≤ 9223372036854775807 := by decide
      omega
    · rw [List.getElem?_map] at hj
      obtain ⟨j', hj', rfl⟩ := Option.map_eq_some_iff.1 hj
      obtain ⟨hlt, he'⟩ := List.getElem?_eq_some_iff.1 hj'
      rw [List.getElem_range] at he'
      subst he'
      rw [List.length_range] at hlt
      obtain ⟨⟨k1, k2, k3⟩, _⟩ := hf j hlt
      exact ⟨(f j).2, k2, k1, k3⟩
    · have h2 := sum_bulk (g := fun i => wt (f i).1 + 1) (D := D) (List.range len) (fun i hi => (hf i (List.mem_range.1 hi)).2)
      rw [hx]
      simp only [Rows.uptoBulk, List.map_map]
      have e : (List.map ((fun y => wt y + 1) ∘ fun i => (f i).1) (List.range len)) = (List.range len).map (fun i => wt (f i).1 + 1) := rfl
      rw [e]
      omega
theorem opens_iso {α β : Type} {t : TypeId} {d : Kd α} {wt : α → Nat} (f : β → α) (g : α → β) (hfg : ∀ x, f (g x) = x) (h : Opens H enc w base spare held t d wt) : Opens H enc w base spare held t (Kd.iso d f) (fun b => wt (f b)) := by
  intro fuel cs x hx
  obtain ⟨y, hy, hw⟩ := h fuel cs x hx
  exact ⟨g y, by show d.K w (f (g y)) cs; rw [hfg]; exact hy, by simp only [hfg]; exact hw⟩
/-- From the i-th field on. -/
def Tl {α : Type} (w : World) (xs : List (DataW H × List MemPlace)) (cs : List Value) (i off : Nat) (d : Kd α) (wt : α → Nat) : Prop := ∃ y : α, d.K w y (cs.drop off) ∧ wt y ≤ Rows.uptoBulkAll ((xs.drop i).map (·.1))
theorem tl_one {α : Type} {a : Kd α} {wa : α → Nat} {xs : List (DataW H × List MemPlace)} {cs : List Value} {n i off : Nat} {t : TypeId} (ha : Opens H enc w base spare held t a wa) (hi : i < xs.length) (hc : Try.prog.cellsOf t = a.sz)
    (ht : DataW.trod enc Try.prog w base spare held n t ((cs.drop off).take (Try.prog.cellsOf t)) = xs[i]?) : ∃ y : α, a.K w y ((cs.drop off).take a.sz) ∧ wa y + Rows.uptoBulkAll ((xs.drop (i + 1)).map (·.1)) ≤ Rows.uptoBulkAll ((xs.drop i).map (·.1)) := by
  rw [List.getElem?_eq_getElem hi, hc] at ht
  obtain ⟨y, hy, hw⟩ := ha _ _ _ ht
  refine ⟨y, hy, ?_⟩
  rw [List.drop_eq_getElem_cons hi]
  simp only [List.map_cons, Rows.uptoBulkAll]
  omega
theorem tl_last {α : Type} {a : Kd α} {wa : α → Nat} {xs : List (DataW H × List MemPlace)} {cs : List Value} {n i off : Nat} {t : TypeId} (ha : Opens H enc w base spare held t a wa) (hi : xs.length = i + 1) (hc : Try.prog.cellsOf t = a.sz) (hl : cs.length = off + a.sz)
    (ht : DataW.trod enc Try.prog w base spare held n t ((cs.drop off).take (Try.prog.cellsOf t)) = xs[i]?) : Tl w xs cs i off a wa := by
  obtain ⟨y, hy, hw⟩ := tl_one ha (by omega) hc ht
  rw [List.take_of_length_le (by rw [List.length_drop]; omega)] at hy
  exact ⟨y, hy, by omega⟩
theorem tl_cons {α β : Type} {a : Kd α} {b : Kd β} {wa : α → Nat} {wb : β → Nat} {xs : List (DataW H × List MemPlace)} {cs : List Value} {n i off : Nat} {t : TypeId} (ha : Opens H enc w base spare held t a wa) (hi : i < xs.length) (hc : Try.prog.cellsOf t = a.sz)
    (ht : DataW.trod enc Try.prog w base spare held n t ((cs.drop off).take (Try.prog.cellsOf t)) = xs[i]?) (h : Tl w xs cs (i + 1) (off + a.sz) b wb) : Tl w xs cs i off (Kd.pair a b) (fun p => wa p.1 + wb p.2) := by
  obtain ⟨y, hy, hw⟩ := tl_one ha hi hc ht
  obtain ⟨z, hz, hw2⟩ := h
  refine ⟨(y, z), ⟨_, _, ?_, hy, hz⟩, by simp only; omega⟩
  rw [← List.drop_drop, List.take_append_drop]
theorem opens_struct {α : Type} {t : TypeId} {fs : Array Field} {d : Kd α} {wt : α → Nat} (ht : Try.prog.underlying t = some (.struct fs))
    (h : ∀ (n : Nat) (cs : List Value) (xs : List (DataW H × List MemPlace)), cs.length = Try.prog.cellsOf t → xs.length = fs.size → (∀ (i : Nat) (f : Field), fs[i]? = some f → DataW.trod enc Try.prog w base spare held n f.type ((cs.drop f.offset).take (Try.prog.cellsOf f.type)) = xs[i]?) → Tl w xs cs 0 0 d wt) :
    Opens H enc w base spare held t d wt := by
  intro fuel cs x hx
  obtain ⟨xs, n, _, rfl, hlen, hxl, hf⟩ := DataW.trod_struct ht hx
  obtain ⟨y, hy, hw⟩ := h n cs xs hlen hxl hf
  rw [List.drop_zero] at hy
  refine ⟨y, hy, ?_⟩
  rw [List.drop_zero] at hw
  simp only [Rows.uptoBulk]
  omega
instance : Inhabited S38 := ⟨z38⟩
instance : Inhabited S40 := ⟨z40⟩
instance : Inhabited S42 := ⟨z42⟩
instance : Inhabited S30 := ⟨z30⟩
instance : Inhabited S64 := ⟨z64⟩
theorem opens38 : Opens H enc w base spare held 38 k38 (fun x => x.f3.size) := by
  have h : Opens H enc w base spare held 38 k38 _ := opens_iso (fun x : S38 => (x.f0, x.f1, x.f2, x.f3)) (fun p => ⟨p.1, p.2.1, p.2.2.1, p.2.2.2⟩) (fun _ => rfl) (opens_struct Try.underlying38 (fun n cs xs hl hx hf => by
    have c : Try.prog.cellsOf 38 = 4 := by kernel_rfl
    rw [c] at hl
    exact tl_cons (opens_int (by kernel_rfl)) (by rw [hx]; decide) (by kernel_rfl) (hf 0 _ rfl) (tl_cons (opens_int (by kernel_rfl)) (by rw [hx]; decide) (by kernel_rfl) (hf 1 _ rfl) (tl_cons (opens_int (by kernel_rfl)) (by rw [hx]; decide) (by kernel_rfl) (hf 2 _ rfl) (tl_last (opens_string (by kernel_rfl)) hx (by kernel_rfl) hl (hf 3 _ rfl))))))
  intro fuel cs x hx
  obtain ⟨y, hy, hw⟩ := h fuel cs x hx
  exact ⟨y, hy, by dsimp only at hw ⊢; omega⟩
theorem opens40 : Opens H enc w base spare held 40 k40 (fun x => x.f1.f3.size) := by
  have h : Opens H enc w base spare held 40 k40 _ := opens_iso (fun x : S40 => (x.f0, x.f1)) (fun p => ⟨p.1, p.2⟩) (fun _ => rfl) (opens_struct Try.underlying40 (fun n cs xs hl hx hf => by
    have c : Try.prog.cellsOf 40 = 5 := by kernel_rfl
    rw [c] at hl
    exact tl_cons (opens_int (by kernel_rfl)) (by rw [hx]; decide) (by kernel_rfl) (hf 0 _ rfl) (tl_last opens38 hx (by kernel_rfl) hl (hf 1 _ rfl))))
  intro fuel cs x hx
  obtain ⟨y, hy, hw⟩ := h fuel cs x hx
  exact ⟨y, hy, by dsimp only at hw ⊢; omega⟩
theorem opens42 : Opens H enc w base spare held 42 k42 (fun x => x.f2.f3.size) := by
  have h : Opens H enc w base spare held 42 k42 _ := opens_iso (fun x : S42 => (x.f0, x.f1, x.f2)) (fun p => ⟨p.1, p.2.1, p.2.2⟩) (fun _ => rfl) (opens_struct Try.underlying42 (fun n cs xs hl hx hf => by
    have c : Try.prog.cellsOf 42 = 6 := by kernel_rfl
    rw [c] at hl
    exact tl_cons (opens_int (by kernel_rfl)) (by rw [hx]; decide) (by kernel_rfl) (hf 0 _ rfl) (tl_cons (opens_bool (by kernel_rfl)) (by rw [hx]; decide) (by kernel_rfl) (hf 1 _ rfl) (tl_last opens38 hx (by kernel_rfl) hl (hf 2 _ rfl)))))
  intro fuel cs x hx
  obtain ⟨y, hy, hw⟩ := h fuel cs x hx
  exact ⟨y, hy, by dsimp only at hw ⊢; omega⟩
theorem opens64 : Opens H enc w base spare held 64 k64 (fun x => 0) := by
  have h : Opens H enc w base spare held 64 k64 _ := opens_iso (fun x : S64 => (x.f0, x.f1, x.f2, x.f3, x.f4, x.f5)) (fun p => ⟨p.1, p.2.1, p.2.2.1, p.2.2.2.1, p.2.2.2.2.1, p.2.2.2.2.2⟩) (fun _ => rfl) (opens_struct Try.underlying64 (fun n cs xs hl hx hf => by
    have c : Try.prog.cellsOf 64 = 6 := by kernel_rfl
    rw [c] at hl
    exact tl_cons (opens_int (by kernel_rfl)) (by rw [hx]; decide) (by kernel_rfl) (hf 0 _ rfl) (tl_cons (opens_bool (by kernel_rfl)) (by rw [hx]; decide) (by kernel_rfl) (hf 1 _ rfl) (tl_cons (opens_int (by kernel_rfl)) (by rw [hx]; decide) (by kernel_rfl) (hf 2 _ rfl) (tl_cons (opens_bool (by kernel_rfl)) (by rw [hx]; decide) (by kernel_rfl) (hf 3 _ rfl) (tl_cons (opens_bool (by kernel_rfl)) (by rw [hx]; decide) (by kernel_rfl) (hf 4 _ rfl) (tl_last (opens_int (by kernel_rfl)) hx (by kernel_rfl) hl (hf 5 _ rfl))))))))
  intro fuel cs x hx
  obtain ⟨y, hy, hw⟩ := h fuel cs x hx
  exact ⟨y, hy, by dsimp only at hw ⊢; omega⟩
theorem wt_ints (l : List Int) : (l.map fun y => 0 + 1).sum = l.length := by induction l with | nil => rfl | cons a l ih => simp only [List.map_cons, List.sum_cons, List.length_cons] at ih ⊢; omega
theorem wt_A (l : List S40) : (l.map fun y => y.f1.f3.size + 1).sum = l.length + strA l := by
  induction l with
  | nil => rfl
  | cons a l ih => rw [strA_cons]; simp only [List.map_cons, List.sum_cons, List.length_cons] at ih ⊢; omega
theorem wt_C (l : List S42) : (l.map fun y => y.f2.f3.size + 1).sum = l.length + strC l := by
  induction l with
  | nil => rfl
  | cons a l ih => rw [strC_cons]; simp only [List.map_cons, List.sum_cons, List.length_cons] at ih ⊢; omega
theorem opens30 : Opens H enc w base spare held 30 k30 (fun x => x.f2.length + (x.f3.length + strA x.f3) + (x.f4.length + strC x.f4)) := by
  have h : Opens H enc w base spare held 30 k30 _ := opens_iso (fun x : S30 => (x.f0, x.f1, x.f2, x.f3, x.f4)) (fun p => ⟨p.1, p.2.1, p.2.2.1, p.2.2.2.1, p.2.2.2.2⟩) (fun _ => rfl) (opens_struct Try.underlying30 (fun n cs xs hl hx hf => by
    have c : Try.prog.cellsOf 30 = 5 := by kernel_rfl
    rw [c] at hl
    exact tl_cons (opens_int (by kernel_rfl)) (by rw [hx]; decide) (by kernel_rfl) (hf 0 _ rfl) (tl_cons (opens_int (by kernel_rfl)) (by rw [hx]; decide) (by kernel_rfl) (hf 1 _ rfl) (tl_cons (opens_slice (by kernel_rfl) (by kernel_rfl) (opens_int (by kernel_rfl))) (by rw [hx]; decide) (by kernel_rfl) (hf 2 _ rfl) (tl_cons (opens_slice (by kernel_rfl) (by kernel_rfl) opens40) (by rw [hx]; decide) (by kernel_rfl) (hf 3 _ rfl) (tl_last (opens_slice (by kernel_rfl) (by kernel_rfl) opens42) hx (by kernel_rfl) hl (hf 4 _ rfl)))))))
  intro fuel cs x hx
  obtain ⟨y, hy, hw⟩ := h fuel cs x hx
  refine ⟨y, hy, ?_⟩
  simp only [wt_A, wt_C] at hw
  rw [wt_ints] at hw
  dsimp only at hw ⊢
  omega
theorem wt_O (l : List S30) : (l.map fun x => x.f2.length + (x.f3.length + strA x.f3) + (x.f4.length + strC x.f4) + 1).sum = sz l := by
  induction l with
  | nil => rfl
  | cons a l ih => rw [sz_cons]; simp only [List.map_cons, List.sum_cons] at ih ⊢; unfold szO; omega
end
end Go.Proofs.Ytmjeoknamoegpaa.P
