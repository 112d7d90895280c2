/- Gather: the plain law on stretches. -/
import Derived.Test.YtibcfglfcoljgaaU
set_option linter.unusedVariables false
set_option linter.unusedSimpArgs false
namespace Go.Proofs.Ytibcfglfcoljgaa
open Go.RowKit Go.Own

/-- Two stretches that do not touch. -/
def sep (x y : Fl) : Prop := x.s ≠ y.s ∨ x.p + x.n < y.p ∨ y.p + y.n < x.p
theorem sep_symm {x y : Fl} (h : sep x y) : sep y x := by unfold sep at *; omega
theorem sep_of {o x : Fl} (h : tch o x = false) : sep x o := by
  have h' : ¬ tch o x = true := by rw [h]; simp
  rw [tch_iff] at h'
  unfold sep; omega
theorem sep_mrg {x o y : Fl} (hx : fine x) (ho : fine o) (hy : fine y) (h1 : sep x o) (h2 : sep x y) (h3 : tch o y = true) : sep x (mrg o y) := by
  rw [tch_iff] at h3
  unfold sep mrg fine at *
  simp only
  omega
/-- Is a page of a space in a stretch? -/
def inF (x : Fl) (s q : Int) : Prop := x.s = s ∧ x.p ≤ q ∧ q < x.p + x.n
def cov (L : List Fl) (s q : Int) : Prop := ∃ x, x ∈ L ∧ inF x s q
theorem in_mrg {o y : Fl} (ho : fine o) (hy : fine y) (h3 : tch o y = true) (s q : Int) : inF (mrg o y) s q ↔ inF o s q ∨ inF y s q := by
  rw [tch_iff] at h3
  unfold inF mrg fine at *
  simp only
  omega
theorem cov_app (L M : List Fl) (s q : Int) : cov (L ++ M) s q ↔ cov L s q ∨ cov M s q := by
  unfold cov
  constructor
  · rintro ⟨x, hx, h⟩
    rcases List.mem_append.mp hx with hx | hx
    · exact .inl ⟨x, hx, h⟩
    · exact .inr ⟨x, hx, h⟩
  · rintro (⟨x, hx, h⟩ | ⟨x, hx, h⟩)
    · exact ⟨x, List.mem_append_left _ hx, h⟩
    · exact ⟨x, List.mem_append_right _ hx, h⟩
theorem cov_one (x : Fl) (s q : Int) : cov [x] s q ↔ inF x s q := by
  unfold cov; simp

theorem pgTo_law (L : List Fl) (o : Fl) (hL : ∀ x, x ∈ L → fine x) (ho : fine o) (hs : L.Pairwise sep) : ∀ k, k ≤ L.length →
    (pgTo L o k).1.Sublist (L.take k) ∧ (∀ x, x ∈ (pgTo L o k).1 → sep x (pgTo L o k).2) ∧ (∀ s q, cov ((pgTo L o k).1 ++ [(pgTo L o k).2]) s q ↔ cov (L.take k) s q ∨ inF o s q) := by
  intro k
  induction k with
  | zero =>
    intro _
    refine ⟨List.Sublist.refl _, fun x hx => by simp [pgTo] at hx, fun s q => ?_⟩
    show cov ([] ++ [o]) s q ↔ cov [] s q ∨ _
    rw [List.nil_append, cov_one]
    exact ⟨.inr, fun h => h.elim (fun ⟨x, hx, _⟩ => by cases hx) id⟩
  | succ k ih =>
    intro hk
    obtain ⟨h1, h2, h3⟩ := ih (by omega)
    obtain ⟨g1, g2, g3, _⟩ := pgTo_fine L o hL ho k (by omega)
    have hxf := hL _ (List.getElem_mem (show k < L.length by omega))
    rw [pgTo_succ L o (by omega)]
    rw [List.take_succ_eq_append_getElem (show k < L.length by omega)]
    have hsx : ∀ x, x ∈ L.take k → sep x L[k] := by
      intro x hx
      obtain ⟨i, hi, rfl⟩ := List.getElem_of_mem hx
      rw [List.length_take] at hi
      rw [List.getElem_take]
      exact List.pairwise_iff_getElem.mp hs i k (by omega) (by omega) (by omega)
    generalize L[k] = x at hxf hsx ⊢
    generalize pgTo L o k = st at h1 h2 h3 g1 g2 g3 ⊢
    unfold pgStep
    cases ht : tch st.2 x with
    | true =>
      rw [if_pos rfl]
      refine ⟨h1.trans (List.sublist_append_left _ _), fun z hz => ?_, fun s q => ?_⟩
      · exact sep_mrg (g3 z hz) g1 hxf (h2 z hz) (hsx z (h1.subset hz)) ht
      · have h4 := h3 s q
        rw [cov_app, cov_one] at h4 ⊢
        rw [cov_app, cov_one, in_mrg g1 hxf ht]
        constructor
        · rintro (h | h | h)
          · exact (h4.mp (.inl h)).elim (fun h => .inl (.inl h)) .inr
          · exact (h4.mp (.inr h)).elim (fun h => .inl (.inl h)) .inr
          · exact .inl (.inr h)
        · rintro ((h | h) | h)
          · exact (h4.mpr (.inl h)).elim .inl (fun h => .inr (.inl h))
          · exact .inr (.inr h)
          · exact (h4.mpr (.inr h)).elim .inl (fun h => .inr (.inl h))
    | false =>
      rw [if_neg (by simp)]
      refine ⟨h1.append (List.Sublist.refl _), fun z hz => ?_, fun s q => ?_⟩
      · rcases List.mem_append.mp hz with hz | hz
        · exact h2 z hz
        · simp at hz; subst hz; exact sep_of ht
      · have h4 := h3 s q
        rw [cov_app, cov_one] at h4
        rw [cov_app, cov_app, cov_one, cov_one, cov_app, cov_one]
        constructor
        · rintro ((h | h) | h)
          · exact (h4.mp (.inl h)).elim (fun h => .inl (.inl h)) .inr
          · exact .inl (.inr h)
          · exact (h4.mp (.inr h)).elim (fun h => .inl (.inl h)) .inr
        · rintro ((h | h) | h)
          · exact (h4.mpr (.inl h)).elim (fun h => .inl (.inl h)) .inr
          · exact .inl (.inr h)
          · exact (h4.mpr (.inr h)).elim (fun h => .inl (.inl h)) .inr

/-- What Pages keeps: none touch, all may be. -/
structure GoodL (L : List Fl) : Prop where
  fi : ∀ x, x ∈ L → fine x
  se : L.Pairwise sep
theorem GoodL.nil : GoodL [] := ⟨by simp, List.Pairwise.nil⟩
theorem pgAll_good {L : List Fl} {o : Fl} (h : GoodL L) (ho : fine o) : GoodL (pgAll L o) ∧ (pgAll L o).length ≤ L.length + 1 ∧ ∀ s q, cov (pgAll L o) s q ↔ cov L s q ∨ inF o s q := by
  obtain ⟨h1, h2, h3⟩ := pgTo_law L o h.fi ho h.se L.length (Nat.le_refl _)
  obtain ⟨g1, g2, g3, g4⟩ := pgTo_fine L o h.fi ho L.length (Nat.le_refl _)
  rw [List.take_length] at h1 h3
  refine ⟨⟨fun x hx => ?_, ?_⟩, by unfold pgAll; simp; exact g4, h3⟩
  · rcases List.mem_append.mp hx with hx | hx
    · exact g3 x hx
    · simp at hx; subst hx; exact g1
  · unfold pgAll
    rw [List.pairwise_append]
    exact ⟨h.se.sublist h1, List.pairwise_singleton _ _, fun a ha b hb => by simp at hb; subst hb; exact h2 a ha⟩

/-! ### What is told: one list only -/
def befF (a b : Fl) : Prop := a.s < b.s ∨ (a.s = b.s ∧ a.p + a.n < b.p)
structure Can (D : List Fl) : Prop where
  fi : ∀ x, x ∈ D → fine x
  or : D.Pairwise befF
theorem can_of {L D : List Fl} (h : GoodL L) (hp : D.Perm L) (hs : D.Pairwise leF) : Can D := by
  have hf : ∀ x, x ∈ D → fine x := fun x hx => h.fi x (hp.mem_iff.mp hx)
  refine ⟨hf, ?_⟩
  have h2 : D.Pairwise sep := (hp.pairwise_iff (fun h => sep_symm h)).mpr h.se
  rw [List.pairwise_iff_getElem] at hs h2 ⊢
  intro i j hi hj hij
  have a1 := hs i j hi hj hij
  have a2 := h2 i j hi hj hij
  have f1 := hf _ (List.getElem_mem hi)
  have f2 := hf _ (List.getElem_mem hj)
  unfold leF at a1
  unfold sep at a2
  unfold fine at f1 f2
  unfold befF
  omega
theorem Can.tail {d : Fl} {D : List Fl} (h : Can (d :: D)) : Can D := ⟨fun x hx => h.fi x (List.mem_cons_of_mem _ hx), (List.pairwise_cons.mp h.or).2⟩
theorem cov_cons (d : Fl) (D : List Fl) (s q : Int) : cov (d :: D) s q ↔ inF d s q ∨ cov D s q := by
  rw [show d :: D = [d] ++ D from rfl, cov_app, cov_one]
theorem head_le {d e : Fl} {D E : List Fl} (hD : Can (d :: D)) (hE : Can (e :: E)) (h : ∀ s q, cov (d :: D) s q → cov (e :: E) s q) : e.s < d.s ∨ (e.s = d.s ∧ e.p ≤ d.p) := by
  have hd := hD.fi d (List.mem_cons_self ..)
  unfold fine at hd
  obtain ⟨y, hy, h1, h2, h3⟩ := h d.s d.p ⟨d, List.mem_cons_self .., rfl, Int.le_refl _, by omega⟩
  rcases List.mem_cons.mp hy with rfl | hy
  · right; exact ⟨h1, h2⟩
  · have h4 := (List.pairwise_cons.mp hE.or).1 y hy
    have he := hE.fi e (List.mem_cons_self ..)
    unfold fine at he
    unfold befF at h4
    omega
theorem head_n {d e : Fl} {D E : List Fl} (hD : Can (d :: D)) (hE : Can (e :: E)) (h : ∀ s q, cov (e :: E) s q → cov (d :: D) s q) (hs : d.s = e.s) (hp : d.p = e.p) : e.n ≤ d.n := by
  by_cases hlt : d.n < e.n
  · exfalso
    have hd := hD.fi d (List.mem_cons_self ..)
    unfold fine at hd
    obtain ⟨y, hy, h1, h2, h3⟩ := h e.s (d.p + d.n) ⟨e, List.mem_cons_self .., rfl, by omega, by omega⟩
    rcases List.mem_cons.mp hy with rfl | hy
    · omega
    · have h4 := (List.pairwise_cons.mp hD.or).1 y hy
      unfold befF at h4
      omega
  · omega
theorem can_uniq : ∀ (D E : List Fl), Can D → Can E → (∀ s q, cov D s q ↔ cov E s q) → D = E := by
  intro D
  induction D with
  | nil =>
    intro E _ hE h
    cases E with
    | nil => rfl
    | cons e E =>
      have he := hE.fi e (List.mem_cons_self ..)
      unfold fine at he
      obtain ⟨x, hx, _⟩ := (h e.s e.p).mpr ⟨e, List.mem_cons_self .., rfl, Int.le_refl _, by omega⟩
      cases hx
  | cons d D ih =>
    intro E hD hE h
    cases E with
    | nil =>
      have hd := hD.fi d (List.mem_cons_self ..)
      unfold fine at hd
      obtain ⟨x, hx, _⟩ := (h d.s d.p).mp ⟨d, List.mem_cons_self .., rfl, Int.le_refl _, by omega⟩
      cases hx
    | cons e E =>
      have h1 := head_le hD hE (fun s q => (h s q).mp)
      have h2 := head_le hE hD (fun s q => (h s q).mpr)
      have hs : d.s = e.s := by omega
      have hp : d.p = e.p := by omega
      have h3 := head_n hD hE (fun s q => (h s q).mpr) hs hp
      have h4 := head_n hE hD (fun s q => (h s q).mp) hs.symm hp.symm
      have hde : d = e := by
        cases d; cases e; simp only at *
        congr 1; omega
      subst hde
      congr 1
      refine ih E hD.tail hE.tail fun s q => ?_
      have hb : ∀ (M : List Fl), Can (d :: M) → cov M s q → ¬ inF d s q := by
        intro M hM ⟨x, hx, g1, g2, g3⟩ ⟨k1, k2, k3⟩
        have h5 := (List.pairwise_cons.mp hM.or).1 x hx
        unfold befF at h5
        omega
      have h6 := h s q
      rw [cov_cons, cov_cons] at h6
      constructor
      · intro hc
        exact (h6.mp (.inr hc)).resolve_left (hb D hD hc)
      · intro hc
        exact (h6.mpr (.inr hc)).resolve_left (hb E hE hc)
theorem told_uniq {L M D E : List Fl} (hL : GoodL L) (hM : GoodL M) (hD : D.Perm L) (hDs : D.Pairwise leF) (hE : E.Perm M) (hEs : E.Pairwise leF) (h : ∀ s q, cov L s q ↔ cov M s q) : D = E := by
  refine can_uniq D E (can_of hL hD hDs) (can_of hM hE hEs) fun s q => ?_
  have h1 : cov D s q ↔ cov L s q := ⟨fun ⟨x, hx, h⟩ => ⟨x, hD.mem_iff.mp hx, h⟩, fun ⟨x, hx, h⟩ => ⟨x, hD.mem_iff.mpr hx, h⟩⟩
  have h2 : cov E s q ↔ cov M s q := ⟨fun ⟨x, hx, h⟩ => ⟨x, hE.mem_iff.mp hx, h⟩, fun ⟨x, hx, h⟩ => ⟨x, hE.mem_iff.mpr hx, h⟩⟩
  rw [h1, h2, h s q]

end Go.Proofs.Ytibcfglfcoljgaa
