/- Buddy: BuddyMerged, the plain law. -/
import Derived.Test.YtcbkfilhgeeebaaAJ
set_option linter.unusedVariables false
set_option linter.unusedSimpArgs false
namespace Go.Proofs.Ytcbkfilhgeeebaa
open Go.RowKit Go.Own

theorem merged_law {F : Nat → Bool} {k a : Nat} (h1 : mx F k a) (h2 : mx F k (a + 2 ^ k)) (hk : k < 8) (ha : a % 2 ^ (k + 1) = 0) : False := by
  refine h1.2.2.2 ⟨hk, ?_⟩
  rw [dn_self ha]
  intro i e1 e2
  have e3 := p2s k
  by_cases h : i < a + 2 ^ k
  · exact h1.2.2.1 i e1 h
  · exact h2.2.2.1 i (by omega) (by omega)
theorem merged_rows {F : Nat → Bool} {D : List Bk} (hb : IsBl F D) {x y : Bk} (hx : x ∈ D) (hy : y ∈ D) : ∃ j a k b : Nat, x = ⟨(a : Int), (j : Int)⟩ ∧ y = ⟨(b : Int), (k : Int)⟩ ∧ j ≤ 8 ∧ k ≤ 8 ∧ (j = k → b = a + 2 ^ k → k < 8 → a % 2 ^ (k + 1) ≠ 0) := by
  obtain ⟨j, a, hm, rfl⟩ := (hb.2 x).mp hx
  obtain ⟨k, b, hm', rfl⟩ := (hb.2 y).mp hy
  refine ⟨j, a, k, b, rfl, rfl, hm.1, hm'.1, fun e1 e2 h8 ha => ?_⟩
  subst e1; subst e2
  exact merged_law hm hm' h8 ha

end Go.Proofs.Ytcbkfilhgeeebaa
