/- Buddy: BuddyMerged, the walk. -/
import Derived.Test.YtcbkfilhgeeebaaAT
import Derived.ProofKit
set_option linter.unusedVariables false
set_option linter.unusedSimpArgs false
namespace Go.Proofs.Ytcbkfilhgeeebaa
open Go.RowKit Go.Own

theorem rem_nz (xf Q r : Int) (h0 : 0 ≤ xf) (h1 : xf < 5000) (h2 : 1 ≤ Q) (h3 : Q < 1000) (h : xf % Q = r) : ¬ (Q = 0) ∧ Int.tmod xf Q = r ∧ wrap64 r = r ∧ IntKind.i64.wrap r = r := by
  have a7 : ¬ (Q = 0) := by omega
  have a4 : Int.tmod xf Q = r := by rw [Int.tmod_eq_emod_of_nonneg h0]; exact h
  have a5 := Int.emod_nonneg xf a7
  have a6 := Int.emod_lt_of_pos xf (show 0 < Q by omega)
  rw [h] at a5 a6
  exact ⟨a7, a4, IntWalk.wrap64_in _ (by omega), IntWalk.i64_in _ (by omega)⟩
/-- What is asked of two blocks, one behind the other. -/
theorem merged_facts {F : Nat → Bool} {D : List Bk} {n k : Nat} (hb : IsBl F D) (hF : ∀ i, F i = true → i < n) (hn : n ≤ 1024) (hk : k + 1 < D.length) :
    ∃ xf xo yf yo P Q r : Int, D[k] = ⟨xf, xo⟩ ∧ D[k + 1] = ⟨yf, yo⟩ ∧ (∀ W, Calls Try.prog 14 #[.int .i64 yo] W fun e w' => e = .returned (.int .i64 P) ∧ w' = W) ∧ IntKind.i64.wrap (yf - P) = yf - P ∧ IntKind.i64.wrap (2 * P) = Q ∧
      (¬ (Q = 0) ∧ Int.tmod xf Q = r ∧ wrap64 r = r ∧ IntKind.i64.wrap r = r) ∧
      (decide (yo < 8) = false ∨ (decide (yo < 8) = true ∧ (xo == yo) = false) ∨ (decide (yo < 8) = true ∧ (xo == yo) = true ∧ (xf == yf - P) = false) ∨ (decide (yo < 8) = true ∧ (xo == yo) = true ∧ (xf == yf - P) = true ∧ (r == 0) = false)) := by
  obtain ⟨j, a, k', b, e1, e2, hj, hk', hne⟩ := merged_rows hb (List.getElem_mem (show k < D.length by omega)) (List.getElem_mem hk)
  obtain ⟨P, hP⟩ : ∃ P, 2 ^ k' = P := ⟨_, rfl⟩
  have hP1 : 1 ≤ P ∧ P ≤ 256 := by
    rw [← hP]
    exact ⟨p2 _, by have := Nat.pow_le_pow_right (n := 2) (by decide) hk'; omega⟩
  have hlt : ∀ (x : Bk), x ∈ D → ∃ a : Nat, x.f = a ∧ a < 1024 := by
    intro x hx
    obtain ⟨q, c, hm, rfl⟩ := (hb.2 x).mp hx
    exact ⟨c, rfl, by have := mx_lt hF hm; omega⟩
  obtain ⟨a2, ha2, ha3⟩ := hlt _ (List.getElem_mem (show k < D.length by omega))
  obtain ⟨b2, hb2, hb3⟩ := hlt _ (List.getElem_mem hk)
  rw [e1] at ha2; rw [e2] at hb2
  simp only at ha2 hb2
  obtain ⟨r, hr⟩ : ∃ r : Int, (a : Int) % (2 * P : Int) = r := ⟨_, rfl⟩
  refine ⟨a, j, b, k', P, 2 * P, r, e1, e2, fun W => size_p k' P hk' hP W, IntWalk.i64_in _ (by omega), IntWalk.i64_in _ (by omega), rem_nz _ _ _ (by omega) (by omega) (by omega) (by omega) hr, ?_⟩
  simp only [decide_eq_true_eq, decide_eq_false_iff_not, beq_iff_eq, beq_eq_false_iff_ne, ne_eq]
  by_cases c1 : (k' : Int) < 8
  · by_cases c2 : (j : Int) = k'
    · by_cases c3 : (a : Int) = b - P
      · refine .inr (.inr (.inr ⟨c1, c2, c3, fun h0 => ?_⟩))
        refine hne (by omega) (by omega) (by omega) ?_
        rw [p2s, hP]
        subst h0
        have : ((a % (2 * P) : Nat) : Int) = 0 := by rw [Int.natCast_emod]; exact hr
        omega
      · exact .inr (.inr (.inl ⟨c1, c2, c3⟩))
    · exact .inr (.inl ⟨c1, c2⟩)
  · exact .inl c1


end Go.Proofs.Ytcbkfilhgeeebaa
