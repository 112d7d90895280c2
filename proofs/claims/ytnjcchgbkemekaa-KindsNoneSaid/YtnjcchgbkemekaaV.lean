/- Buddy: awake; BuddyNone. -/
import Derived.Test.YtnjcchgbkemekaaU
set_option linter.unusedVariables false
set_option linter.unusedSimpArgs false
namespace Go.Proofs.Ytnjcchgbkemekaa
open Go.RowKit Go.Own

/-- The object, its rows wherever. -/
def BFs (w : World) (B p n : Nat) (F : Nat → Bool) : Prop := BF w B p n F (fun x => B ≤ x ∧ x < w.heap.size)
theorem BF.std {w : World} {B p n : Nat} {F : Nat → Bool} {G : Nat → Prop} (h : BF w B p n F G) : BFs w B p n F := by
  obtain ⟨S, ⟨V, h1, h2⟩, h3⟩ := h
  exact ⟨S, ⟨V, h1, fun j hj x hx => (h1.hv j hj).lt x hx⟩, h3⟩
theorem BFs.keep0 {w w' : World} {B p n : Nat} {F : Nat → Bool} (h : BFs w B p n F) (k : Keep (fun _ => False) w w') : BFs w' B p n F := (BF.keep0 h k).std
theorem took_std {w w' : World} {B p n : Nat} {F' : Nat → Bool} (h : TookC w w' B p n F' (fun x => B ≤ x ∧ x < w.heap.size)) : BFs w' B p n F' ∧ Keep (fun z => z = p ∨ B ≤ z) w w' := ⟨h.1.std, h.2.mono fun z _ hz => hz.imp id And.left⟩

theorem sub16 : ∀ k a, mx (subB (upTo 16) 0 0) k a ↔ (k = 0 ∧ a = 1) ∨ (k = 1 ∧ a = 2) ∨ (k = 2 ∧ a = 4) ∨ (k = 3 ∧ a = 8) := by
  have hF : ∀ i, subB (upTo 16) 0 0 i = true ↔ 1 ≤ i ∧ i < 16 := fun i => by
    rw [subB_iff]; unfold upTo; rw [decide_eq_true_eq]; omega
  have h4 : ∀ k a, ((k = 0 ∧ a = 1) ∨ (k = 1 ∧ a = 2) ∨ (k = 2 ∧ a = 4) ∨ (k = 3 ∧ a = 8)) → mx (subB (upTo 16) 0 0) k a := by
    rintro k a (⟨rfl, rfl⟩ | ⟨rfl, rfl⟩ | ⟨rfl, rfl⟩ | ⟨rfl, rfl⟩)
    all_goals
      refine ⟨by decide, by decide, fun i h1 h2 => by rw [hF]; omega, fun ⟨_, hb⟩ => ?_⟩
      have := hb 0 (by decide) (by decide)
      rw [hF] at this; omega
  intro k a
  refine ⟨fun hm => ?_, h4 k a⟩
  have h1 := (hF a).mp (hm.2.2.1 a (Nat.le_refl _) (by have := p2 k; omega))
  have hc : (∃ q b, ((q = 0 ∧ b = 1) ∨ (q = 1 ∧ b = 2) ∨ (q = 2 ∧ b = 4) ∨ (q = 3 ∧ b = 8)) ∧ b ≤ a ∧ a < b + 2 ^ q) := by
    by_cases e1 : a < 2
    · exact ⟨0, 1, .inl ⟨rfl, rfl⟩, by omega, by omega⟩
    by_cases e2 : a < 4
    · exact ⟨1, 2, .inr (.inl ⟨rfl, rfl⟩), by omega, by omega⟩
    by_cases e3 : a < 8
    · exact ⟨2, 4, .inr (.inr (.inl ⟨rfl, rfl⟩)), by omega, by omega⟩
    · exact ⟨3, 8, .inr (.inr (.inr ⟨rfl, rfl⟩)), by omega, by omega⟩
  obtain ⟨q, b, hqb, h2, h3⟩ := hc
  obtain ⟨e1, e2⟩ := mx_uniq hm (h4 q b hqb) (Nat.le_refl _) (by have := p2 k; omega) h2 h3
  rw [e1, e2]; exact hqb
theorem up16 : ∀ k a, mx (upTo 16) k a ↔ k = 4 ∧ a = 0 := by
  have hF : ∀ i, upTo 16 i = true ↔ i < 16 := fun i => by unfold upTo; rw [decide_eq_true_eq]
  have h4 : mx (upTo 16) 4 0 := by
    refine ⟨by decide, by decide, fun i h1 h2 => by rw [hF]; omega, fun ⟨_, hb⟩ => ?_⟩
    have := hb 16 (by decide) (by decide)
    rw [hF] at this; omega
  intro k a
  refine ⟨fun hm => ?_, ?_⟩
  · have h1 := (hF a).mp (hm.2.2.1 a (Nat.le_refl _) (by have := p2 k; omega))
    exact mx_uniq hm h4 (Nat.le_refl _) (by have := p2 k; omega) (Nat.zero_le _) (by omega)
  · rintro ⟨rfl, rfl⟩; exact h4
theorem isBl_len {F : Nat → Bool} {D : List Bk} (h : IsBl F D) (E : List Bk) (hs : E.Pairwise (fun x y => x.f < y.f)) (hm : ∀ x, x ∈ E ↔ ∃ k a : Nat, mx F k a ∧ x = ⟨(a : Int), (k : Int)⟩) : D = E :=
  isBl_uniq (F := F) h.1 hs fun x => by rw [h.2 x, hm x]
theorem bl_sub16 {D : List Bk} (h : IsBl (subB (upTo 16) 0 0) D) : D.length = 4 := by
  rw [isBl_len h [⟨1, 0⟩, ⟨2, 1⟩, ⟨4, 2⟩, ⟨8, 3⟩] (by simp) (fun x => by
    constructor
    · intro hx
      simp only [List.mem_cons, List.not_mem_nil, or_false] at hx
      rcases hx with rfl | rfl | rfl | rfl
      · exact ⟨0, 1, (sub16 _ _).mpr (.inl ⟨rfl, rfl⟩), rfl⟩
      · exact ⟨1, 2, (sub16 _ _).mpr (.inr (.inl ⟨rfl, rfl⟩)), rfl⟩
      · exact ⟨2, 4, (sub16 _ _).mpr (.inr (.inr (.inl ⟨rfl, rfl⟩))), rfl⟩
      · exact ⟨3, 8, (sub16 _ _).mpr (.inr (.inr (.inr ⟨rfl, rfl⟩))), rfl⟩
    · rintro ⟨k, a, hm, rfl⟩
      rcases (sub16 k a).mp hm with ⟨rfl, rfl⟩ | ⟨rfl, rfl⟩ | ⟨rfl, rfl⟩ | ⟨rfl, rfl⟩ <;> simp)]
  rfl
theorem bl_up16 {D : List Bk} (h : IsBl (upTo 16) D) : D.length = 1 := by
  rw [isBl_len h [⟨0, 4⟩] (by simp) (fun x => by
    constructor
    · intro hx
      simp only [List.mem_cons, List.not_mem_nil, or_false] at hx
      subst hx
      exact ⟨4, 0, (up16 _ _).mpr ⟨rfl, rfl⟩, rfl⟩
    · rintro ⟨k, a, hm, rfl⟩
      obtain ⟨rfl, rfl⟩ := (up16 k a).mp hm
      simp)]
  rfl
theorem add16 : addB (subB (upTo 16) 0 0) 0 0 = upTo 16 := add_sub fun i h1 h2 => by simp [upTo]; simp at h2; omega

theorem cells_fo {w W : World} {b e : Nat} {x0 x1 x2 x3 x4 : Value} {z : Nat × Nat} (h : w.heap[b]? = some (.cells #[x0, x1, x2, x3, x4] e z)) (K : Keep (fun _ => False) w W) : W.cell? ⟨b, 1, none⟩ = some x1 ∧ W.cell? ⟨b, 2, none⟩ = some x2 := by
  have h2 := (K.block b (block_lt h) id).trans h
  simp [cell_block h2]
end Go.Proofs.Ytnjcchgbkemekaa
