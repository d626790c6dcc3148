-- plain law: NormalShort
import Derived.Test.YtmjeoknamoegpaaSums
import Derived.Test.YtmjeoknamoegpaaPx14
namespace Go.Proofs.Ytmjeoknamoegpaa.P
open Go.RowKit Go.Proofs.YtmjeoknamoegpaaW.PrintWords Go.Proofs.YtmjeoknamoegpaaW.PrintLast Go.Proofs.YtmjeoknamoegpaaW.PrintMore
set_option linter.unusedVariables false
set_option linter.unusedSimpArgs false
theorem wrap_add (a b : Int) : wrap64 (wrap64 a + b) = wrap64 (a + b) := by unfold wrap64; omega
theorem drop_sums {l : List S30} {i : Nat} (h : i < l.length) : (tot (l.drop i) = l[i].f2.length + tot (l.drop (i + 1))) ∧ del (l.drop i) = dl l[i] + del (l.drop (i + 1)) := by
  rw [List.drop_eq_getElem_cons h]
  exact ⟨tot_cons _ _, del_cons _ _⟩
theorem short_l0 (x y : List S30) (hx : x.length ≤ 20000) (c d : Int) : ∀ (n i : Nat) (a b : Int) (k : Nat), i ≤ x.length → x.length - i = n → rubriclaw16_NormalShort.l0 (k + n + 1) x y (wrap64 a) (wrap64 b) c d (x.length : Int) (i : Int) = rubriclaw16_NormalShort.l1 k x y (wrap64 (a + tot (x.drop i))) (wrap64 (b + del (x.drop i))) c d (y.length : Int) 0
  | 0, i, a, b, k, h0, h1 => by
    have e : i = x.length := by omega
    rw [rubriclaw16_NormalShort.l0, if_neg (by omega), e, List.drop_length]
    simp [tot, del]
  | n + 1, i, a, b, k, h0, h1 => by
    have hi : i < x.length := by omega
    obtain ⟨e1, e2⟩ := drop_sums hi
    have e : (i : Int) + 1 = ((i + 1 : Nat) : Int) := by omega
    rw [rubriclaw16_NormalShort.l0, if_pos (by omega), if_pos (by omega), if_pos (by omega), rd30_at x i hi, wrap_add, wrap_add, w64 ((i : Int) + 1) (by omega), e, e1, e2]
    have e3 : a + ((x[i].f2.length + tot (x.drop (i + 1)) : Nat) : Int) = a + (x[i].f2.length : Int) + (tot (x.drop (i + 1)) : Int) := by omega
    rw [e3]
    split
    · rename_i h3
      have e4 : dl x[i] = x[i].f1 := by unfold dl; rw [if_pos h3]
      rw [e4, ← Int.add_assoc b]
      exact short_l0 x y hx c d n (i + 1) _ _ k (by omega) (by omega)
    · rename_i h3
      have e4 : dl x[i] = 0 := by unfold dl; rw [if_neg h3]
      rw [e4, Int.zero_add]
      exact short_l0 x y hx c d n (i + 1) _ _ k (by omega) (by omega)
theorem short_l1 (x y : List S30) (hy : y.length ≤ 20000) (c d : Int) (hxl : y.length ≤ x.length) (r q : Bool) (hr : normal_Is.f x = some r) (hq : ops_Same.f y x = some q) (hrq : r = q) : ∀ (n i : Nat) (a b : Int) (k : Nat), i ≤ y.length → y.length - i = n → c = wrap64 (a + tot (y.drop i)) → d = wrap64 (b + del (y.drop i)) → rubriclaw16_NormalShort.l1 (k + n + 1) x y c d (wrap64 a) (wrap64 b) (y.length : Int) (i : Int) = some true
  | 0, i, a, b, k, h0, h1, hc, hd => by
    have e : i = y.length := by omega
    rw [e, List.drop_length] at hc hd
    have ec : c = wrap64 a := by rw [hc]; simp [tot]
    have ed : d = wrap64 b := by rw [hd]; simp [del]
    rw [rubriclaw16_NormalShort.l1, if_neg (by omega), if_pos (by omega), if_pos ec, if_pos ed, hr, Option.bind_some, hq, Option.bind_some, hrq, if_pos (by simp)]
    rfl
  | n + 1, i, a, b, k, h0, h1, hc, hd => by
    have hi : i < y.length := by omega
    obtain ⟨e1, e2⟩ := drop_sums hi
    have e : (i : Int) + 1 = ((i + 1 : Nat) : Int) := by omega
    rw [rubriclaw16_NormalShort.l1, if_pos (by omega), if_pos (by omega), if_pos (by omega), rd30_at y i hi, wrap_add, wrap_add, w64 ((i : Int) + 1) (by omega), e]
    rw [e1] at hc
    rw [e2] at hd
    have e3 : a + ((y[i].f2.length + tot (y.drop (i + 1)) : Nat) : Int) = a + (y[i].f2.length : Int) + (tot (y.drop (i + 1)) : Int) := by omega
    rw [e3] at hc
    split
    · rename_i h3
      have e4 : dl y[i] = y[i].f1 := by unfold dl; rw [if_pos h3]
      rw [e4, ← Int.add_assoc b] at hd
      exact short_l1 x y hy c d hxl r q hr hq hrq n (i + 1) _ _ k (by omega) (by omega) hc hd
    · rename_i h3
      have e4 : dl y[i] = 0 := by unfold dl; rw [if_neg h3]
      rw [e4, Int.zero_add] at hd
      exact short_l1 x y hy c d hxl r q hr hq hrq n (i + 1) _ _ k (by omega) (by omega) hc hd
end Go.Proofs.Ytmjeoknamoegpaa.P
namespace Go.Proofs.Ytmjeoknamoegpaa.Pure
open Go.RowKit Go.Proofs.Ytmjeoknamoegpaa.P
theorem NormalShort (keys : List S64) (x : List S30) (h : sz x ≤ 2000000) : ∃ k, rubriclaw16_NormalShort.f k keys x = some true := by
  refine ⟨6950000 + (ofP x).length + 2, ?_⟩
  obtain ⟨r, hr, ht⟩ := tame_some keys x h (6950000 + (ofP x).length + 2) (by omega)
  unfold rubriclaw16_NormalShort.f
  rw [hr, Option.bind_some]
  cases r with
  | false => rw [if_neg (by decide)]; rfl
  | true =>
    obtain ⟨hz, ho⟩ := ht rfl
    obtain ⟨s1, s2, s3⟩ := form_small hz ho
    have hl := (small_sz hz).1
    obtain ⟨t1, t2, t3⟩ := ofP_sums x ho (by omega)
    have hof := of_some (small_sz hz)
    have hsm := same_some (x := ofP x) (y := x) (by omega)
    have his : normal_Is.f x = some (eqB ((ofP x).map keyO) (x.map keyO)) := by
      unfold normal_Is.f
      rw [hof, Option.bind_some, hsm, Option.bind_some]
    rw [if_pos rfl, hof, Option.bind_some]
    have h0 := short_l0 x (ofP x) hl 0 0 x.length 0 0 0 (6950000 - x.length + (ofP x).length + 1) (by omega) (by omega)
    have h1 := short_l1 x (ofP x) s1 (wrap64 (0 + tot (x.drop 0))) (wrap64 (0 + del (x.drop 0))) t3 _ _ his hsm rfl (ofP x).length 0 0 0 (6950000 - x.length) (by omega) (by omega) (by simp [t1]) (by simp [t2])
    have hw : wrap64 0 = 0 := w64 0 (by omega)
    rw [hw] at h0 h1
    have e0 : ((0 : Nat) : Int) = 0 := rfl
    rw [e0] at h0 h1
    have h2 := h0.trans h1
    rw [show 6950000 - x.length + (ofP x).length + 1 + x.length + 1 = 6950000 + (ofP x).length + 2 from by omega] at h2
    exact h2
end Go.Proofs.Ytmjeoknamoegpaa.Pure
