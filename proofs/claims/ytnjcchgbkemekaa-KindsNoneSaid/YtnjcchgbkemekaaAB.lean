/- Buddy: the reference's Blocks, the plain law. -/
import Derived.Test.YtnjcchgbkemekaaAA
set_option linter.unusedVariables false
set_option linter.unusedSimpArgs false
namespace Go.Proofs.Ytnjcchgbkemekaa
open Go.RowKit Go.Own

/-- The blocks that begin below at, in order; none goes beyond. -/
def BlI (F : Nat → Bool) (D : List Bk) (t : Nat) : Prop :=
  D.Pairwise (fun x y => x.f < y.f) ∧ (∀ x, x ∈ D ↔ ∃ k a : Nat, mx F k a ∧ a < t ∧ x = ⟨(a : Int), (k : Int)⟩) ∧ ∀ k a, mx F k a → a < t → a + 2 ^ k ≤ t
theorem bl_zero (F : Nat → Bool) : BlI F [] 0 :=
  ⟨List.Pairwise.nil, fun x => ⟨fun h => (by cases h), fun ⟨_, _, _, h, _⟩ => absurd h (Nat.not_lt_zero _)⟩, fun _ _ _ h => absurd h (Nat.not_lt_zero _)⟩
theorem bl_skip {F : Nat → Bool} {D : List Bk} {t : Nat} (h : BlI F D t) (hF : F t = false) : BlI F D (t + 1) := by
  obtain ⟨h1, h2, h3⟩ := h
  have hno : ∀ k a, mx F k a → a < t + 1 → a < t := fun k a hm ha => by
    have : a ≠ t := fun e => by
      subst e
      have := hm.2.2.1 a (Nat.le_refl _) (by have := p2 k; omega)
      rw [hF] at this; cases this
    omega
  refine ⟨h1, fun x => ?_, fun k a hm ha => by have := h3 k a hm (hno k a hm ha); omega⟩
  rw [h2 x]
  exact ⟨fun ⟨k, a, hm, ha, e⟩ => ⟨k, a, hm, by omega, e⟩, fun ⟨k, a, hm, ha, e⟩ => ⟨k, a, hm, hno k a hm ha, e⟩⟩
theorem bl_take {F : Nat → Bool} {D : List Bk} {t k : Nat} (h : BlI F D t) (hk : k ≤ 8) (hm : t % 2 ^ k = 0) (hb : blk F k t) (hg : ∀ j, k < j → j ≤ 8 → ¬ (t % 2 ^ j = 0 ∧ blk F j t)) :
    mx F k t ∧ BlI F (D ++ [⟨(t : Int), (k : Int)⟩]) (t + 2 ^ k) := by
  obtain ⟨h1, h2, h3⟩ := h
  have hpos := p2 k
  have hmx : mx F k t := by
    refine ⟨hk, hm, hb, fun ⟨hk8, hb2⟩ => ?_⟩
    obtain ⟨j, hj, hmj⟩ := mx_up t (8 - (k + 1)) (k + 1) (by omega) hb2
    have q1 := dn_le j t
    have q2 := dn_lt j t
    by_cases he : dn j t = t
    · rw [he] at hmj
      exact hg j (by omega) hmj.1 ⟨hmj.2.1, hmj.2.2.1⟩
    · have := h3 j _ hmj (by omega); omega
  have hc : ∀ k' a, mx F k' a → a < t + 2 ^ k → (a < t) ∨ (k' = k ∧ a = t) := fun k' a hm' ha => by
    by_cases hl : a < t
    · exact .inl hl
    · exact .inr (mx_uniq hm' hmx (Nat.le_refl _) (by have := p2 k'; omega) (by omega) ha)
  refine ⟨hmx, ?_, fun x => ?_, fun k' a hm' ha => ?_⟩
  · rw [List.pairwise_append]
    refine ⟨h1, List.pairwise_singleton _ _, fun x hx y hy => ?_⟩
    rw [List.mem_singleton] at hy
    subst hy
    obtain ⟨k', a, _, ha, rfl⟩ := (h2 x).mp hx
    exact Int.ofNat_lt.mpr ha
  · rw [List.mem_append, List.mem_singleton, h2 x]
    constructor
    · rintro (⟨k', a, hm', ha, e⟩ | e)
      · exact ⟨k', a, hm', by omega, e⟩
      · exact ⟨k, t, hmx, by omega, e⟩
    · rintro ⟨k', a, hm', ha, e⟩
      rcases hc k' a hm' ha with hl | ⟨rfl, rfl⟩
      · exact .inl ⟨k', a, hm', hl, e⟩
      · exact .inr e
  · rcases hc k' a hm' ha with hl | ⟨rfl, rfl⟩
    · have := h3 k' a hm' hl; omega
    · exact Nat.le_refl _
theorem bl_end {F : Nat → Bool} {D : List Bk} {t n : Nat} (h : BlI F D t) (hF : ∀ i, F i = true → i < n) (ht : n ≤ t) : IsBl F D := by
  refine ⟨h.1, fun x => ?_⟩
  rw [h.2.1 x]
  exact ⟨fun ⟨k, a, hm, _, e⟩ => ⟨k, a, hm, e⟩, fun ⟨k, a, hm, e⟩ => ⟨k, a, hm, by have := mx_lt hF hm; omega, e⟩⟩
theorem allB_blk {F : Nat → Bool} {n k f : Nat} (hF : ∀ i, F i = true → i < n) : allB F n f (2 ^ k) true ↔ blk F k f := by
  constructor
  · intro h i h1 h2
    have := (h (i - f) (by omega)).2
    rwa [show f + (i - f) = i by omega] at this
  · intro h i hi
    have := h (f + i) (by omega) (by omega)
    exact ⟨hF _ this, this⟩
/-- What the inner loop knows: the greatest order below j. -/
def BsI (F : Nat → Bool) (t : Nat) (j : Nat) (k : Int) : Prop :=
  (k = -1 ∧ ∀ i, i < j → ¬ (t % 2 ^ i = 0 ∧ blk F i t)) ∨ ∃ q : Nat, k = q ∧ q < j ∧ (t % 2 ^ q = 0 ∧ blk F q t) ∧ ∀ i, q < i → i < j → ¬ (t % 2 ^ i = 0 ∧ blk F i t)
theorem bsI_zero (F : Nat → Bool) (t : Nat) : BsI F t 0 (-1) := .inl ⟨rfl, fun i h => absurd h (Nat.not_lt_zero _)⟩
theorem bsI_yes {F : Nat → Bool} {t j : Nat} {k : Int} (h : t % 2 ^ j = 0 ∧ blk F j t) : BsI F t (j + 1) j :=
  .inr ⟨j, rfl, Nat.lt_succ_self _, h, fun i h1 h2 => by omega⟩
theorem bsI_no {F : Nat → Bool} {t j : Nat} {k : Int} (hI : BsI F t j k) (h : ¬ (t % 2 ^ j = 0 ∧ blk F j t)) : BsI F t (j + 1) k := by
  rcases hI with ⟨rfl, h1⟩ | ⟨q, rfl, h1, h2, h3⟩
  · exact .inl ⟨rfl, fun i hi => by
      by_cases e : i = j
      · rw [e]; exact h
      · exact h1 i (by omega)⟩
  · exact .inr ⟨q, rfl, by omega, h2, fun i hi hi2 => by
      by_cases e : i = j
      · rw [e]; exact h
      · exact h3 i hi (by omega)⟩
theorem bsI_none {F : Nat → Bool} {t : Nat} {D : List Bk} (hI : BsI F t 9 (-1)) (h : BlI F D t) : BlI F D (t + 1) := by
  rcases hI with ⟨-, h1⟩ | ⟨q, e, -⟩
  · refine bl_skip h ?_
    cases hF : F t with
    | false => rfl
    | true => exact absurd ⟨Nat.mod_one t, fun i h1 h2 => by simp at h2; rw [show i = t by omega]; exact hF⟩ (h1 0 (by omega))
  · omega
theorem bsI_some {F : Nat → Bool} {t q : Nat} {D : List Bk} (hI : BsI F t 9 (q : Int)) (h : BlI F D t) : q ≤ 8 ∧ BlI F (D ++ [⟨(t : Int), (q : Int)⟩]) (t + 2 ^ q) := by
  rcases hI with ⟨e, -⟩ | ⟨q', e, h1, h2, h3⟩
  · omega
  · have : q = q' := by omega
    subst this
    exact ⟨by omega, (bl_take h (by omega) h2.1 h2.2 (fun j hj hj8 => h3 j hj (by omega))).2⟩

end Go.Proofs.Ytnjcchgbkemekaa
