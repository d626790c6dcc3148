-- an argument that is a slice of structs, opened to a row that is read
import Derived.Deep.Slices
import Derived.Deep.Fields
import Derived.ChangeSame
import Derived.OpenShut
import Derived.Test.YtpnoeggnniagfaaPx0
namespace Go.Proofs.Ytpnoeggnniagfaa.P
open Go.RowKit Go.ChangeShapes Go.WideShapes Go.Deep Go.Proofs.YtpnoeggnniagfaaW.PrintWords Go.Proofs.YtpnoeggnniagfaaW.PrintLast Go.Proofs.YtpnoeggnniagfaaW.PrintMore
set_option linter.unusedVariables false
section
variable {H : Type} {enc : TypeId × Value → H} {w : World} {base : Nat} {spare : Nat → Bool} {held : Bool}
def Opens (H : Type) (enc : TypeId × Value → H) (w : World) (base : Nat) (spare : Nat → Bool) (held : Bool) {α : Type} (t : TypeId) (d : Kd α) : Prop :=
  ∀ (fuel : Nat) (cs : List Value) (x : DataW H × List MemPlace), DataW.trod enc Try.prog w base spare held fuel t cs = some x → ∃ y : α, d.K w y cs
theorem opens_int {t : TypeId} {k : IntKind} (ht : Try.prog.underlying t = some (.int k)) : Opens H enc w base spare held t (Kd.int k) := by
  intro fuel cs x h
  obtain ⟨n, rfl, _, _⟩ := DataW.trod_int ht h
  exact ⟨n, rfl⟩
theorem opens_string {t : TypeId} (ht : Try.prog.underlying t = some .string) : Opens H enc w base spare held t Kd.string := by
  intro fuel cs x h
  obtain ⟨s, rfl, _, _⟩ := DataW.trod_string ht h
  exact ⟨s, rfl⟩
theorem opens_slice {α : Type} [Inhabited α] {t e : TypeId} {d : Kd α} (ht : Try.prog.underlying t = some (.slice e)) (hsz : Try.prog.cellsOf e = d.sz) (he : Opens H enc w base spare held e d) : Opens H enc w base spare held t (Kd.slice e d) := by
  intro fuel cs x h
  rcases open_slice ht h with ⟨rfl, _⟩ | ⟨a, len, cap, m, n, D, Pl, rfl, hb, hl, hm, hmm, hx, hi⟩
  · exact ⟨[], none, 0, rfl, by simp, Kd.C_nil _ _⟩
  · have hlm : len ≤ m := by rw [hmm]; split <;> omega
    have h1 : ∀ i : Nat, ∃ y : α × List Value, i < len → d.K w y.1 y.2 ∧ y.2.length = d.sz ∧ ∀ j u, y.2[j]? = some u → w.cell? (a.add (i * d.sz + j)) = some u := by
      intro i
      by_cases hil : i < len
      · obtain ⟨cs', hc, ht'⟩ := hi i (by omega)
        obtain ⟨y, hy⟩ := he _ _ _ ht'
        obtain ⟨_, hcl, hat⟩ := World.cells?_some hc
        rw [hsz] at hcl hat
        refine ⟨(y, cs'), fun _ => ⟨hy, hcl, fun j u hu => ?_⟩⟩
        have hj : j < d.sz := by have := (List.getElem?_eq_some_iff.1 hu).1; dsimp only at this; omega
        rw [← Go.Deep.add_add, hat j hj]; exact hu
      · exact ⟨(default, []), fun hh => absurd hh hil⟩
    obtain ⟨f, hf⟩ := Classical.skolem.1 h1
    refine ⟨(List.range len).map fun i => (f i).1, some a, cap, by simp, by simpa using hl, by simp, ?_, fun hp => ⟨a, rfl, fun j p hj => ?_⟩⟩
    · simp only [List.length_map, List.length_range]
      have : maxLen ≤ 9223372036854775807 := by decide
      omega
    · rw [List.getElem?_map] at hj
      obtain ⟨j', hj', rfl⟩ := Option.map_eq_some_iff.1 hj
      obtain ⟨hlt, he'⟩ := List.getElem?_eq_some_iff.1 hj'
      rw [List.getElem_range] at he'
      subst he'
      rw [List.length_range] at hlt
      obtain ⟨k1, k2, k3⟩ := hf j hlt
      exact ⟨(f j).2, k2, k1, k3⟩
theorem opens_iso {α β : Type} {t : TypeId} {d : Kd α} (f : β → α) (g : α → β) (hfg : ∀ x, f (g x) = x) (h : Opens H enc w base spare held t d) : Opens H enc w base spare held t (Kd.iso d f) := by
  intro fuel cs x hx
  obtain ⟨y, hy⟩ := h fuel cs x hx
  exact ⟨g y, by show d.K w (f (g y)) cs; rw [hfg]; exact hy⟩
theorem opens_struct2 {α β : Type} {t : TypeId} {fs : Array Field} {f0 f1 : Field} {a : Kd α} {b : Kd β} (ht : Try.prog.underlying t = some (.struct fs)) (h0 : fs[0]? = some f0) (h1 : fs[1]? = some f1) (hs : fs.size = 2) (hC : Try.prog.cellsOf t = a.sz + b.sz)
    (o0 : f0.offset = 0) (o1 : f1.offset = a.sz) (c0 : Try.prog.cellsOf f0.type = a.sz) (c1 : Try.prog.cellsOf f1.type = b.sz) (ha : Opens H enc w base spare held f0.type a) (hb : Opens H enc w base spare held f1.type b) :
    Opens H enc w base spare held t (Kd.pair a b) := by
  intro fuel cs x hx
  obtain ⟨xs, n, _, _, hlen, hxl, hf⟩ := DataW.trod_struct ht hx
  have e0 := hf 0 f0 h0
  have e1 := hf 1 f1 h1
  rw [o0, c0, List.drop_zero, List.getElem?_eq_getElem (by omega)] at e0
  rw [o1, c1, List.getElem?_eq_getElem (by omega)] at e1
  obtain ⟨y0, k0⟩ := ha _ _ _ e0
  obtain ⟨y1, k1⟩ := hb _ _ _ e1
  refine ⟨(y0, y1), _, _, ?_, k0, k1⟩
  rw [hC] at hlen
  rw [List.take_of_length_le (l := cs.drop a.sz) (by rw [List.length_drop]; omega), List.take_append_drop]
theorem opens_struct4 {α β γ δ : Type} {t : TypeId} {fs : Array Field} {f0 f1 f2 f3 : Field} {a : Kd α} {b : Kd β} {c : Kd γ} {d : Kd δ} (ht : Try.prog.underlying t = some (.struct fs)) (h0 : fs[0]? = some f0) (h1 : fs[1]? = some f1) (h2 : fs[2]? = some f2) (h3 : fs[3]? = some f3) (hs : fs.size = 4) (hC : Try.prog.cellsOf t = a.sz + (b.sz + (c.sz + d.sz)))
    (o0 : f0.offset = 0) (o1 : f1.offset = a.sz) (o2 : f2.offset = a.sz + b.sz) (o3 : f3.offset = a.sz + b.sz + c.sz) (c0 : Try.prog.cellsOf f0.type = a.sz) (c1 : Try.prog.cellsOf f1.type = b.sz) (c2 : Try.prog.cellsOf f2.type = c.sz) (c3 : Try.prog.cellsOf f3.type = d.sz)
    (ha : Opens H enc w base spare held f0.type a) (hb : Opens H enc w base spare held f1.type b) (hc : Opens H enc w base spare held f2.type c) (hd : Opens H enc w base spare held f3.type d) :
    Opens H enc w base spare held t (Kd.pair a (Kd.pair b (Kd.pair c d))) := by
  intro fuel cs x hx
  obtain ⟨xs, n, _, _, hlen, hxl, hf⟩ := DataW.trod_struct ht hx
  have e0 := hf 0 f0 h0
  have e1 := hf 1 f1 h1
  have e2 := hf 2 f2 h2
  have e3 := hf 3 f3 h3
  rw [o0, c0, List.drop_zero, List.getElem?_eq_getElem (by omega)] at e0
  rw [o1, c1, List.getElem?_eq_getElem (by omega)] at e1
  rw [o2, c2, List.getElem?_eq_getElem (by omega)] at e2
  rw [o3, c3, List.getElem?_eq_getElem (by omega)] at e3
  obtain ⟨y0, k0⟩ := ha _ _ _ e0
  obtain ⟨y1, k1⟩ := hb _ _ _ e1
  obtain ⟨y2, k2⟩ := hc _ _ _ e2
  obtain ⟨y3, k3⟩ := hd _ _ _ e3
  rw [hC] at hlen
  refine ⟨(y0, y1, y2, y3), _, _, ?_, k0, _, _, rfl, k1, _, _, rfl, k2, k3⟩
  rw [List.take_of_length_le (l := cs.drop (a.sz + b.sz + c.sz)) (by rw [List.length_drop]; omega)]
  have q3 : (cs.drop (a.sz + b.sz)).take c.sz ++ cs.drop (a.sz + b.sz + c.sz) = cs.drop (a.sz + b.sz) := by
    have h := List.take_append_drop c.sz (cs.drop (a.sz + b.sz))
    rwa [List.drop_drop] at h
  have q2 : (cs.drop a.sz).take b.sz ++ cs.drop (a.sz + b.sz) = cs.drop a.sz := by
    have h := List.take_append_drop b.sz (cs.drop a.sz)
    rwa [List.drop_drop] at h
  rw [q3, q2, List.take_append_drop]
instance : Inhabited S46 := ⟨z46⟩
instance : Inhabited S34 := ⟨z34⟩
instance : Inhabited S26 := ⟨z26⟩
theorem opens44 : Opens H enc w base spare held 44 k44 :=
  opens_iso (fun x : S44 => (x.f0, x.f1, x.f2, x.f3)) (fun p => ⟨p.1, p.2.1, p.2.2.1, p.2.2.2⟩) (fun _ => rfl)
    (opens_struct4 Try.underlying44 rfl rfl rfl rfl rfl (by kernel_rfl) rfl rfl rfl rfl (by kernel_rfl) (by kernel_rfl) (by kernel_rfl) (by kernel_rfl) (opens_int (by kernel_rfl)) (opens_int (by kernel_rfl)) (opens_int (by kernel_rfl)) (opens_string (by kernel_rfl)))
theorem opens46 : Opens H enc w base spare held 46 k46 :=
  opens_iso (fun x : S46 => (x.f0, x.f1)) (fun p => ⟨p.1, p.2⟩) (fun _ => rfl)
    (opens_struct2 Try.underlying46 rfl rfl rfl (by kernel_rfl) rfl rfl (by kernel_rfl) (by kernel_rfl) (opens_int (by kernel_rfl)) opens44)
theorem opens34 : Opens H enc w base spare held 34 k34 :=
  opens_iso (fun x : S34 => (x.f0, x.f1)) (fun p => ⟨p.1, p.2⟩) (fun _ => rfl)
    (opens_struct2 Try.underlying34 rfl rfl rfl (by kernel_rfl) rfl rfl (by kernel_rfl) (by kernel_rfl) (opens_int (by kernel_rfl)) (opens_slice (by kernel_rfl) (by kernel_rfl) opens46))
theorem opens26 : Opens H enc w base spare held 26 k26 :=
  opens_iso (fun x : S26 => (x.f0, x.f1)) (fun p => ⟨p.1, p.2⟩) (fun _ => rfl)
    (opens_struct2 Try.underlying26 rfl rfl rfl (by kernel_rfl) rfl rfl (by kernel_rfl) (by kernel_rfl) (opens_int (by kernel_rfl)) (opens_slice (by kernel_rfl) (by kernel_rfl) opens46))
end
end Go.Proofs.Ytpnoeggnniagfaa.P
