/- MovingOld: the plain law. -/
import Derived.Test.YtnlalihapmlceaaX
set_option linter.unusedVariables false
set_option linter.unusedSimpArgs false
namespace Go.Proofs.Ytnlalihapmlceaa
open Go.RowKit Go.Own

def dj (x y : Mv) : Prop := x.f ≠ y.f ∧ x.f ≠ y.t ∧ x.t ≠ y.f ∧ x.t ≠ y.t
theorem dj_symm : ∀ {x y : Mv}, dj x y → dj y x := fun h => ⟨Ne.symm h.1, Ne.symm h.2.2.1, Ne.symm h.2.1, Ne.symm h.2.2.2⟩
def fine (x : Mv) : Prop := (0 ≤ x.f ∧ x.f ≤ 1023) ∧ (0 ≤ x.t ∧ x.t ≤ 1023) ∧ x.f ≠ x.t ∧ 0 ≤ x.a ∧ x.a ≤ 60

theorem rows_dj {T S A : List Int} (h : Good T S A 60) : (rows T S A).Pairwise dj :=
  List.pairwise_iff_getElem.mpr fun j k hj hk hjk => one_apart h hjk hk
theorem rows_fine {T S A : List Int} (h : Good T S A 60) : ∀ x, x ∈ rows T S A → fine x := by
  intro x hx
  obtain ⟨i, hi, si, rfl⟩ := mem_rows.mp hx
  have ht := h.tt i hi si
  have hg := h.ag i hi
  have hd := (h.ds i i hi hi si si).1
  simp only [fine, mk]
  exact ⟨by omega, by omega, by omega, hg⟩

/-- A move that is there is given up, begun the other way round, given up again. -/
theorem turn_law {E R : List Mv} {x : Mv} (hp : E.Perm (x :: R)) (hd : E.Pairwise dj) (hf : ∀ y, y ∈ E → fine y) (hl : E.length ≤ 9) :
    abortR E x.f = (x.t, 0) ∧ beginE (abortL E x.f) 9 x.t x.f = 0 ∧ (abortR (beginS (abortL E x.f) 9 x.t x.f) x.t).2 = 0 ∧ (abortL (beginS (abortL E x.f) 9 x.t x.f) x.t).Perm R := by
  have hx : x ∈ E := hp.mem_iff.mpr (List.mem_cons_self ..)
  have hpw := (hp.pairwise_iff dj_symm).mp hd
  rw [List.pairwise_cons] at hpw
  have hfx := hf x hx
  -- where it lies
  have hk : ∃ k : Nat, ofI E x.f = k ∧ ∃ h : k < E.length, E[k] = x := by
    rcases ofI_cases E x.f with ⟨h1, h2⟩ | ⟨k, h1, hk, h3⟩
    · obtain ⟨i, hi, e⟩ := List.getElem_of_mem hx
      exact absurd (by rw [e]) (h2 i hi)
    · refine ⟨k, h1, hk, ?_⟩
      rcases List.mem_cons.mp (hp.mem_iff.mp (List.getElem_mem hk)) with e | e
      · exact e
      · exact absurd h3.symm (hpw.1 _ e).1
  obtain ⟨k, hk1, hkl, hk2⟩ := hk
  have e1 : abortR E x.f = (x.t, 0) := by
    unfold abortR; rw [if_neg (by rw [hk1]; omega), hk1, Int.toNat_natCast, List.getD_eq_getElem?_getD, List.getElem?_eq_getElem hkl, hk2]; rfl
  have e2 : abortL E x.f = endL E k := by unfold abortL; rw [if_neg (by rw [hk1]; omega), hk1]; rfl
  have hpe : (endL E k).Perm R := by
    have h1 := endL_perm hkl
    rw [hk2] at h1
    exact List.Perm.cons_inv (h1.symm.trans hp)
  rw [e2]
  have hne : ∀ y, y ∈ endL E k → dj x y := fun y hy => hpw.1 y (hpe.mem_iff.mp hy)
  have hnf : ∀ g, (g = x.f ∨ g = x.t) → (findM (endL E k) g).isSome = false := by
    intro g hg
    cases hz : findM (endL E k) g with
    | none => rfl
    | some z =>
      unfold findM at hz
      have hzm := List.mem_of_find?_eq_some hz
      have hzp : z.f = g ∨ z.t = g := by have h0 := List.find?_some hz; exact of_decide_eq_true h0
      have h := hne z hzm
      exfalso
      obtain ⟨a1, a2, a3, a4⟩ := h
      rcases hg with rfl | rfl <;> rcases hzp with e | e
      · exact a1 e.symm
      · exact a2 e.symm
      · exact a3 e.symm
      · exact a4 e.symm
  have hlen := endL_length hkl
  have e3 : beginE (endL E k) 9 x.t x.f = 0 := by
    obtain ⟨f1, f2, f3, f4⟩ := hfx
    have hf1 : frameB x.f = true := by unfold frameB; rw [decide_eq_true]; omega
    have hf2 : frameB x.t = true := by unfold frameB; rw [decide_eq_true]; omega
    unfold beginE
    rw [if_neg (by rw [hf1, hf2]; simp), if_neg (fun e => f3 e.symm), if_neg (by rw [hnf _ (.inl rfl), hnf _ (.inr rfl)]; simp), if_neg (by omega)]
  have e4 : beginS (endL E k) 9 x.t x.f = beginL (endL E k) x.t x.f := by unfold beginS; rw [if_pos e3]
  rw [e4]
  have hb := begin_perm (L := endL E k) (f := x.t) (t := x.f)
  have hm2 : ∃ k2 : Nat, ofI (beginL (endL E k) x.t x.f) x.t = k2 ∧ ∃ h : k2 < (beginL (endL E k) x.t x.f).length, (beginL (endL E k) x.t x.f)[k2] = ⟨x.t, x.f, 1, 0⟩ := by
    rcases ofI_cases (beginL (endL E k) x.t x.f) x.t with ⟨h1, h2⟩ | ⟨k2, h1, hk, h3⟩
    · obtain ⟨i, hi, e⟩ := List.getElem_of_mem (hb.mem_iff.mpr (List.mem_cons_self ..))
      exact absurd (by rw [e]) (h2 i hi)
    · refine ⟨k2, h1, hk, ?_⟩
      rcases List.mem_cons.mp (hb.mem_iff.mp (List.getElem_mem hk)) with e | e
      · exact e
      · exact absurd h3.symm (hne _ e).2.2.1
  obtain ⟨k2, hk3, hkl2, hk4⟩ := hm2
  refine ⟨e1, e3, ?_, ?_⟩
  · unfold abortR; rw [if_neg (by rw [hk3]; omega)]
  · unfold abortL; rw [if_neg (by rw [hk3]; omega), hk3, Int.toNat_natCast]
    have h1 := endL_perm hkl2
    rw [hk4] at h1
    exact (List.Perm.cons_inv (h1.symm.trans hb)).trans hpe

theorem split_perm (L : List Mv) (p : Mv → Bool) : L.Perm (L.filter p ++ L.filter fun x => !p x) := by
  induction L with
  | nil => exact List.Perm.refl _
  | cons x L ih =>
    by_cases h : p x = true
    · rw [List.filter_cons_of_pos h, List.filter_cons_of_neg (by simp [h]), List.cons_append]
      exact List.Perm.cons _ ih
    · rw [List.filter_cons_of_neg h, List.filter_cons_of_pos (by simp [h])]
      exact (List.Perm.cons _ ih).trans List.perm_middle.symm
theorem rest_none {L E : List Mv} {age : Int} (h : E.Perm (L.filter fun x => !oldP age x)) : E.filter (oldP age) = [] := by
  rw [List.filter_eq_nil_iff]
  intro x hx
  have := (List.mem_filter.mp (h.mem_iff.mp hx)).2
  simpa using this

end Go.Proofs.Ytnlalihapmlceaa
