/- Buddy: the reference's Take. -/
import Derived.Test.YtcbkfilhgeeebaaAE
set_option linter.unusedVariables false
set_option linter.unusedSimpArgs false
namespace Go.Proofs.Ytcbkfilhgeeebaa
open Go.RowKit Go.Own

/-- The best among the first j. -/
def BeI (o : Int) (D : List Bk) (j : Nat) (k : Int) : Prop :=
  (k = -1 ∧ ∀ i (h : i < D.length), i < j → D[i].o < o) ∨ ∃ (q : Nat) (hq : q < D.length), k = q ∧ o ≤ D[q].o ∧ ∀ i (h : i < D.length), i < j → o ≤ D[i].o → D[q].o ≤ D[i].o ∧ (D[i].o = D[q].o → q ≤ i)
theorem be_small {o : Int} {D : List Bk} {j : Nat} {k : Int} (h : BeI o D j k) (hj : j < D.length) (hs : D[j].o < o) : BeI o D (j + 1) k := by
  rcases h with ⟨h1, h2⟩ | ⟨q, hq, h1, h2, h3⟩
  · exact .inl ⟨h1, fun i hi hij => by
      by_cases e : i = j
      · subst e; exact hs
      · exact h2 i hi (by omega)⟩
  · exact .inr ⟨q, hq, h1, h2, fun i hi hij ho => by
      by_cases e : i = j
      · subst e; omega
      · exact h3 i hi (by omega) ho⟩
theorem be_first {o : Int} {D : List Bk} {j : Nat} (h : BeI o D j (-1)) (hj : j < D.length) (hs : o ≤ D[j].o) : BeI o D (j + 1) j := by
  rcases h with ⟨h1, h2⟩ | ⟨q, hq, h1, h2, h3⟩
  · exact .inr ⟨j, hj, rfl, hs, fun i hi hij ho => by
      by_cases e : i = j
      · subst e; exact ⟨by omega, fun _ => by omega⟩
      · have := h2 i hi (by omega); omega⟩
  · omega
theorem be_less {o : Int} {D : List Bk} {j q : Nat} (h : BeI o D j q) (hj : j < D.length) (hq : q < D.length) (hs : o ≤ D[j].o) (hl : D[j].o < D[q].o) : BeI o D (j + 1) j := by
  rcases h with ⟨h1, h2⟩ | ⟨q', hq', h1, h2, h3⟩
  · omega
  · obtain rfl : q = q' := by omega
    exact .inr ⟨j, hj, rfl, hs, fun i hi hij ho => by
      by_cases e : i = j
      · subst e; exact ⟨by omega, fun _ => by omega⟩
      · have := (h3 i hi (by omega) ho).1; exact ⟨by omega, fun _ => by omega⟩⟩
theorem be_more {o : Int} {D : List Bk} {j q : Nat} (h : BeI o D j q) (hj : j < D.length) (hq : q < D.length) (hl : ¬ D[j].o < D[q].o) (hqj : q ≤ j) : BeI o D (j + 1) q := by
  rcases h with ⟨h1, h2⟩ | ⟨q', hq', h1, h2, h3⟩
  · omega
  · obtain rfl : q = q' := by omega
    exact .inr ⟨q, hq, rfl, h2, fun i hi hij ho => by
      by_cases e : i = j
      · subst e; exact ⟨by omega, fun _ => hqj⟩
      · exact h3 i hi (by omega) ho⟩
theorem sorted_lt {D : List Bk} (hs : D.Pairwise (fun x y => x.f < y.f)) {i q : Nat} (hi : i < D.length) (hq : q < D.length) (h : D[i].f < D[q].f) : i < q := by
  rcases Nat.lt_trichotomy i q with h1 | h1 | h1
  · exact h1
  · subst h1; omega
  · have := List.pairwise_iff_getElem.mp hs q i hq hi h1; omega
theorem be_end {F : Nat → Bool} {o : Nat} {D : List Bk} {k : Int} (h : BeI o D D.length k) (hb : IsBl F D) :
    (k = -1 ∧ ∀ j b, o ≤ j → ¬ mx F j b) ∨ ∃ (q : Nat) (hq : q < D.length) (K a : Nat), k = q ∧ D[q].f = a ∧ o ≤ K ∧ mx F K a ∧ (∀ j b, o ≤ j → j < K → ¬ mx F j b) ∧ (∀ b, b < a → ¬ mx F K b) := by
  have hidx : ∀ j b, mx F j b → ∃ (i : Nat) (hi : i < D.length), D[i] = ⟨(b : Int), (j : Int)⟩ := fun j b hm => by
    obtain ⟨i, hi, e⟩ := List.getElem_of_mem ((hb.2 ⟨(b : Int), (j : Int)⟩).mpr ⟨j, b, hm, rfl⟩)
    exact ⟨i, hi, e⟩
  rcases h with ⟨h1, h2⟩ | ⟨q, hq, h1, h2, h3⟩
  · refine .inl ⟨h1, fun j b ho hm => ?_⟩
    obtain ⟨i, hi, e⟩ := hidx j b hm
    have := h2 i hi hi
    rw [e] at this
    simp at this; omega
  · obtain ⟨K, a, hm, e⟩ := (hb.2 _).mp (List.getElem_mem hq)
    rw [e] at h2
    simp only at h2
    refine .inr ⟨q, hq, K, a, h1, by rw [e], by omega, hm, fun j b ho hl hm' => ?_, fun b hl hm' => ?_⟩
    · obtain ⟨i, hi, e'⟩ := hidx j b hm'
      have := (h3 i hi hi (by rw [e']; simp only; omega)).1
      rw [e, e'] at this
      simp only at this; omega
    · obtain ⟨i, hi, e'⟩ := hidx K b hm'
      have h4 := (h3 i hi hi (by rw [e']; simp only; omega)).2 (by rw [e, e'])
      have h5 := sorted_lt hb.1 hi hq (by rw [e, e']; simp only; omega)
      omega

end Go.Proofs.Ytcbkfilhgeeebaa
