/- Buddy: Same; the reference's Take. -/
import Derived.Test.YtjffdimlbppgcaaW
set_option linter.unusedVariables false
set_option linter.unusedSimpArgs false
namespace Go.Proofs.Ytjffdimlbppgcaa
open Go.RowKit Go.Own

/- Part Y: Buddy: the reference: All, set, Free. -/
/-- A row of truths. -/
def MetN (w : World) (q n : Nat) (M : Nat → Bool) : Prop := ∃ C : Array Value, w.heap[q]? = some (.cells C 4 (0, 0)) ∧ C.size = n ∧ ∀ i, i < n → C[i]? = some (.bool (M i))
theorem MetN.cell {w : World} {q n i : Nat} {M : Nat → Bool} (h : MetN w q n M) (hi : i < n) : w.cell? ⟨q, i, none⟩ = some (.bool (M i)) := by
  obtain ⟨C, h1, _, h3⟩ := h
  rw [cell_block h1, h3 i hi]
theorem MetN.frozen {w : World} {q n : Nat} {M : Nat → Bool} (h : MetN w q n M) (i : Nat) : w.frozen? ⟨q, i, none⟩ = false := by
  obtain ⟨C, h1, _, _⟩ := h
  exact frozen_block h1
theorem MetN.lt {w : World} {q n : Nat} {M : Nat → Bool} (h : MetN w q n M) : q < w.heap.size := by
  obtain ⟨C, h1, _, _⟩ := h
  exact block_lt h1
theorem MetN.keep {w w' : World} {q n : Nat} {M : Nat → Bool} {S : Nat → Prop} (h : MetN w q n M) (k : Keep S w w') (hS : ¬ S q) : MetN w' q n M := by
  have hl := h.lt
  obtain ⟨C, h1, h2⟩ := h
  exact ⟨C, (k.block q hl hS).trans h1, h2⟩
theorem MetN.set {w : World} {q n i : Nat} {M : Nat → Bool} (b : Bool) (h : MetN w q n M) : MetN (w.setCell ⟨q, i, none⟩ (.bool b)) q n (fun x => if x = i then b else M x) := by
  obtain ⟨C, h1, h2, h3⟩ := h
  refine ⟨_, heap_setCell_eq h1, by simpa using h2, fun x hx => ?_⟩
  by_cases he : x = i
  · subst he; simp [h2, hx]
  · rw [Array.getElem?_setIfInBounds_ne (Ne.symm he), h3 x hx]; simp [he]
theorem MetN.congr {w : World} {q n : Nat} {M M' : Nat → Bool} (h : MetN w q n M) (e : ∀ i, i < n → M i = M' i) : MetN w q n M' := by
  obtain ⟨C, h1, h2, h3⟩ := h
  exact ⟨C, h1, h2, fun i hi => by rw [h3 i hi, e i hi]⟩
/-- Are all of a block's frames as said? -/
def allB (F : Nat → Bool) (n f P : Nat) (b : Bool) : Prop := ∀ i, i < P → f + i < n ∧ F (f + i) = b
/-- What is set. -/
def putB (F : Nat → Bool) (k f : Nat) (b : Bool) : Nat → Bool := fun i => if f ≤ i ∧ i < f + 2 ^ k then b else F i
theorem putB_true (F : Nat → Bool) (k f : Nat) : putB F k f true = addB F k f := by
  funext i
  unfold putB addB
  by_cases h : f ≤ i ∧ i < f + 2 ^ k
  · rw [if_pos h]; simp [h.1, h.2]
  · rw [if_neg h]
    cases hF : F i with
    | true => simp
    | false => simp; omega
theorem putB_false (F : Nat → Bool) (k f : Nat) : putB F k f false = subB F k f := by
  funext i
  unfold putB subB
  by_cases h : f ≤ i ∧ i < f + 2 ^ k
  · rw [if_pos h]; simp [h.1, h.2]
  · rw [if_neg h]
    cases hF : F i with
    | false => simp
    | true => simp; omega
/- Part Z: Buddy: the reference: Free, New. -/
theorem cnt_succ (F : Nat → Bool) (j : Nat) : cnt F (j + 1) = cnt F j + (if F j then 1 else 0) := by
  unfold cnt
  rw [List.range_succ, List.countP_append]
  simp [List.countP_cons]
/- Part AA: Buddy: the reference: Change. -/
theorem tmod_run (f : Int) (P : Nat) (h : 1 ≤ P ∧ P ≤ 256) (r : Int) (hr : Int.tmod f P = r) (W : World) : Sem.run Try.prog (binOp .rem 3 (.int .i64 f) (.int .i64 (P : Int))) W = Result.ok (.int .i64 r) W := by
  have a7 : ¬ ((P : Int) = 0) := by omega
  have a8 : ¬ (P = 0) := by omega
  have hb : r.natAbs < P := by rw [← hr, Int.natAbs_tmod]; exact Nat.mod_lt _ (by simp; omega)
  have a9 : IntKind.i64.wrap r = r := IntWalk.i64_in _ (by omega)
  have a10 : wrap64 r = r := IntWalk.wrap64_in _ (by omega)
  go_simp
theorem tmod_zero (f : Int) (P : Nat) : Int.tmod f P = 0 ↔ f % (P : Int) = 0 :=
  ⟨fun h => Int.emod_eq_zero_of_dvd (Int.dvd_of_tmod_eq_zero h), fun h => Int.tmod_eq_zero_of_dvd (Int.dvd_of_emod_eq_zero h)⟩

/- Part AB: Buddy: the reference's Blocks, the plain law. -/
/-- The blocks that begin below at, in order; none goes beyond. -/
def BlI (F : Nat → Bool) (D : List Bk) (t : Nat) : Prop :=
  D.Pairwise (fun x y => x.f < y.f) ∧ (∀ x, x ∈ D ↔ ∃ k a : Nat, mx F k a ∧ a < t ∧ x = ⟨(a : Int), (k : Int)⟩) ∧ ∀ k a, mx F k a → a < t → a + 2 ^ k ≤ t
theorem bl_zero (F : Nat → Bool) : BlI F [] 0 :=
  ⟨List.Pairwise.nil, fun x => ⟨fun h => (by cases h), fun ⟨_, _, _, h, _⟩ => absurd h (Nat.not_lt_zero _)⟩, fun _ _ _ h => absurd h (Nat.not_lt_zero _)⟩
theorem bl_skip {F : Nat → Bool} {D : List Bk} {t : Nat} (h : BlI F D t) (hF : F t = false) : BlI F D (t + 1) := by
  obtain ⟨h1, h2, h3⟩ := h
  have hno : ∀ k a, mx F k a → a < t + 1 → a < t := fun k a hm ha => by
    have : a ≠ t := fun e => by
      subst e
      have := hm.2.2.1 a (Nat.le_refl _) (by have := p2 k; omega)
      rw [hF] at this; cases this
    omega
  refine ⟨h1, fun x => ?_, fun k a hm ha => by have := h3 k a hm (hno k a hm ha); omega⟩
  rw [h2 x]
  exact ⟨fun ⟨k, a, hm, ha, e⟩ => ⟨k, a, hm, by omega, e⟩, fun ⟨k, a, hm, ha, e⟩ => ⟨k, a, hm, hno k a hm ha, e⟩⟩
theorem bl_take {F : Nat → Bool} {D : List Bk} {t k : Nat} (h : BlI F D t) (hk : k ≤ 8) (hm : t % 2 ^ k = 0) (hb : blk F k t) (hg : ∀ j, k < j → j ≤ 8 → ¬ (t % 2 ^ j = 0 ∧ blk F j t)) :
    mx F k t ∧ BlI F (D ++ [⟨(t : Int), (k : Int)⟩]) (t + 2 ^ k) := by
  obtain ⟨h1, h2, h3⟩ := h
  have hpos := p2 k
  have hmx : mx F k t := by
    refine ⟨hk, hm, hb, fun ⟨hk8, hb2⟩ => ?_⟩
    obtain ⟨j, hj, hmj⟩ := mx_up t (8 - (k + 1)) (k + 1) (by omega) hb2
    have q1 := dn_le j t
    have q2 := dn_lt j t
    by_cases he : dn j t = t
    · rw [he] at hmj
      exact hg j (by omega) hmj.1 ⟨hmj.2.1, hmj.2.2.1⟩
    · have := h3 j _ hmj (by omega); omega
  have hc : ∀ k' a, mx F k' a → a < t + 2 ^ k → (a < t) ∨ (k' = k ∧ a = t) := fun k' a hm' ha => by
    by_cases hl : a < t
    · exact .inl hl
    · exact .inr (mx_uniq hm' hmx (Nat.le_refl _) (by have := p2 k'; omega) (by omega) ha)
  refine ⟨hmx, ?_, fun x => ?_, fun k' a hm' ha => ?_⟩
  · rw [List.pairwise_append]
    refine ⟨h1, List.pairwise_singleton _ _, fun x hx y hy => ?_⟩
    rw [List.mem_singleton] at hy
    subst hy
    obtain ⟨k', a, _, ha, rfl⟩ := (h2 x).mp hx
    exact Int.ofNat_lt.mpr ha
  · rw [List.mem_append, List.mem_singleton, h2 x]
    constructor
    · rintro (⟨k', a, hm', ha, e⟩ | e)
      · exact ⟨k', a, hm', by omega, e⟩
      · exact ⟨k, t, hmx, by omega, e⟩
    · rintro ⟨k', a, hm', ha, e⟩
      rcases hc k' a hm' ha with hl | ⟨rfl, rfl⟩
      · exact .inl ⟨k', a, hm', hl, e⟩
      · exact .inr e
  · rcases hc k' a hm' ha with hl | ⟨rfl, rfl⟩
    · have := h3 k' a hm' hl; omega
    · exact Nat.le_refl _
theorem bl_end {F : Nat → Bool} {D : List Bk} {t n : Nat} (h : BlI F D t) (hF : ∀ i, F i = true → i < n) (ht : n ≤ t) : IsBl F D := by
  refine ⟨h.1, fun x => ?_⟩
  rw [h.2.1 x]
  exact ⟨fun ⟨k, a, hm, _, e⟩ => ⟨k, a, hm, e⟩, fun ⟨k, a, hm, e⟩ => ⟨k, a, hm, by have := mx_lt hF hm; omega, e⟩⟩
theorem allB_blk {F : Nat → Bool} {n k f : Nat} (hF : ∀ i, F i = true → i < n) : allB F n f (2 ^ k) true ↔ blk F k f := by
  constructor
  · intro h i h1 h2
    have := (h (i - f) (by omega)).2
    rwa [show f + (i - f) = i by omega] at this
  · intro h i hi
    have := h (f + i) (by omega) (by omega)
    exact ⟨hF _ this, this⟩
/-- What the inner loop knows: the greatest order below j. -/
def BsI (F : Nat → Bool) (t : Nat) (j : Nat) (k : Int) : Prop :=
  (k = -1 ∧ ∀ i, i < j → ¬ (t % 2 ^ i = 0 ∧ blk F i t)) ∨ ∃ q : Nat, k = q ∧ q < j ∧ (t % 2 ^ q = 0 ∧ blk F q t) ∧ ∀ i, q < i → i < j → ¬ (t % 2 ^ i = 0 ∧ blk F i t)
theorem bsI_zero (F : Nat → Bool) (t : Nat) : BsI F t 0 (-1) := .inl ⟨rfl, fun i h => absurd h (Nat.not_lt_zero _)⟩
theorem bsI_yes {F : Nat → Bool} {t j : Nat} {k : Int} (h : t % 2 ^ j = 0 ∧ blk F j t) : BsI F t (j + 1) j :=
  .inr ⟨j, rfl, Nat.lt_succ_self _, h, fun i h1 h2 => by omega⟩
theorem bsI_no {F : Nat → Bool} {t j : Nat} {k : Int} (hI : BsI F t j k) (h : ¬ (t % 2 ^ j = 0 ∧ blk F j t)) : BsI F t (j + 1) k := by
  rcases hI with ⟨rfl, h1⟩ | ⟨q, rfl, h1, h2, h3⟩
  · exact .inl ⟨rfl, fun i hi => by
      by_cases e : i = j
      · rw [e]; exact h
      · exact h1 i (by omega)⟩
  · exact .inr ⟨q, rfl, by omega, h2, fun i hi hi2 => by
      by_cases e : i = j
      · rw [e]; exact h
      · exact h3 i hi (by omega)⟩
theorem bsI_none {F : Nat → Bool} {t : Nat} {D : List Bk} (hI : BsI F t 9 (-1)) (h : BlI F D t) : BlI F D (t + 1) := by
  rcases hI with ⟨-, h1⟩ | ⟨q, e, -⟩
  · refine bl_skip h ?_
    cases hF : F t with
    | false => rfl
    | true => exact absurd ⟨Nat.mod_one t, fun i h1 h2 => by simp at h2; rw [show i = t by omega]; exact hF⟩ (h1 0 (by omega))
  · omega
theorem bsI_some {F : Nat → Bool} {t q : Nat} {D : List Bk} (hI : BsI F t 9 (q : Int)) (h : BlI F D t) : q ≤ 8 ∧ BlI F (D ++ [⟨(t : Int), (q : Int)⟩]) (t + 2 ^ q) := by
  rcases hI with ⟨e, -⟩ | ⟨q', e, h1, h2, h3⟩
  · omega
  · have : q = q' := by omega
    subst this
    exact ⟨by omega, (bl_take h (by omega) h2.1 h2.2 (fun j hj hj8 => h3 j hj (by omega))).2⟩

/- Part AC: Buddy: the reference's Blocks, the walk. -/
def RBlI (w wr : World) (n : Nat) (F : Nat → Bool) (v : Value) (i : Value) : Prop :=
  ∃ D t, i = .int .i64 ((t : Nat) : Int) ∧ t ≤ n ∧ BlI F D t ∧ D.length ≤ t ∧ OwnL bkE wr w.heap.size 50 v D ∧ Keep (fun _ => False) w wr
/- Part AE: Buddy: Same; the reference's Take. -/
end Go.Proofs.Ytjffdimlbppgcaa
