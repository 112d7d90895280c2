/- Kinds: small. -/
import Derived.Test.YtnjcchgbkemekaaKQ
set_option linter.unusedVariables false
set_option linter.unusedSimpArgs false
namespace Go.Proofs.Ytnjcchgbkemekaa
open Go.RowKit Go.Own

def sm (n : Int) : Int := if 150 < n ∧ n ≤ 1024 then 150 else n
theorem sm_is (n : Int) : (sm n < 8 ∨ 1024 < sm n) ∨ ∃ m : Nat, sm n = m ∧ 8 ≤ m ∧ m ≤ 150 := by
  unfold sm
  split
  · exact .inr ⟨150, rfl, by decide, by decide⟩
  · by_cases h : n < 8 ∨ 1024 < n
    · exact .inl h
    · exact .inr ⟨n.toNat, by omega, by omega, by omega⟩
theorem small_any (n : Int) (w : World) : Calls Try.prog 28 #[.int .i64 n] w fun e w' => e = .returned (.int .i64 (sm n)) ∧ w' = w := by
  unfold sm
  by_cases h1 : 150 < n
  · by_cases h2 : n ≤ 1024
    · have t1 : decide (150 < n) = true := decide_eq_true h1
      have t2 : decide (n ≤ 1024) = true := decide_eq_true h2
      rw [if_pos ⟨h1, h2⟩]
      clear h1 h2
      go_enter Try.func28, Try.ntmps28
      go_wp2
      go_ret
      exact ⟨rfl, rfl⟩
    · have t1 : decide (150 < n) = true := decide_eq_true h1
      have t2 : decide (n ≤ 1024) = false := decide_eq_false h2
      rw [if_neg (fun h => h2 h.2)]
      clear h1 h2
      go_enter Try.func28, Try.ntmps28
      go_wp2
      go_ret
      exact ⟨rfl, rfl⟩
  · have t1 : decide (150 < n) = false := decide_eq_false h1
    rw [if_neg (fun h => h1 h.1)]
    clear h1
    go_enter Try.func28, Try.ntmps28
    go_wp2
    go_ret
    exact ⟨rfl, rfl⟩

end Go.Proofs.Ytnjcchgbkemekaa
