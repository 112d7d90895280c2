/- Frames: small contracts. -/
import Derived.Test.YtajjelfeldofgaaRows
import Derived.Test.YtajjelfeldofgaaLib
import Derived.WalkKit
import Derived.WalkSpells
import Derived.WalkLawsBesides
import Derived.Lib.Hide
namespace Go.Proofs.Ytajjelfeldofgaa
open Go.RowKit Go.Own

def stateB (n : Int) : Bool := decide (0 ≤ n ∧ n < 6)
theorem stateB_t {n : Int} (h : 0 ≤ n) (h' : n < 6) : stateB n = true := by simp [stateB, h, h']
theorem stateB_f {n : Int} (h : n < 0 ∨ 6 ≤ n) : stateB n = false := by simp [stateB]; omega

set_option maxHeartbeats 400000 in
theorem state_t (n : Int) (w : World) (h0 : 0 ≤ n) (h1 : n < 6) :
    Calls Try.prog 21 #[.int .i64 n] w fun e w' => e = .returned (.bool true) ∧ w = w' := by
  go_enter Try.func21, Try.ntmps21
  go_wp2
  go_ret
  exact ⟨rfl, rfl⟩

set_option maxHeartbeats 400000 in
theorem state_any (n : Int) (w : World) :
    Calls Try.prog 21 #[.int .i64 n] w fun e w' => e = .returned (.bool (stateB n)) ∧ w = w' := by
  go_enter Try.func21, Try.ntmps21
  go_wp2
  all_goals
    go_ret
    exact ⟨by simp [stateB] <;> omega, rfl⟩

set_option maxHeartbeats 400000 in
theorem state_f (n : Int) (w : World) (h : n < 0 ∨ 6 ≤ n) :
    Calls Try.prog 21 #[.int .i64 n] w fun e w' => e = .returned (.bool false) ∧ w = w' := by
  rcases h with h | h
  all_goals
    go_enter Try.func21, Try.ntmps21
    go_wp2
    all_goals
      go_ret
      exact ⟨by simp <;> omega, rfl⟩

set_option maxHeartbeats 400000 in
theorem len_nil (w : World) :
    Calls Try.prog 12 #[.pointer none] w fun e w' => e = .returned (.int .i64 0) ∧ w = w' := by
  go_enter Try.func12, Try.ntmps12
  go_wp2
  go_ret
  exact ⟨rfl, rfl⟩

set_option maxHeartbeats 400000 in
theorem len_any (p q n : Nat) (w : World) (h : w.cell? ⟨p, 0, none⟩ = some (.slice (some ⟨q, 0, none⟩) n n)):
    Calls Try.prog 12 #[.pointer (some ⟨p, 0, none⟩)] w fun e w' => e = .returned (.int .i64 n) ∧ w = w' := by
  go_enter Try.func12, Try.ntmps12
  go_wp2
  go_ret
  exact ⟨rfl, rfl⟩

def mayB (f t : Int) : Bool := if f = t then false else if f = 0 ∨ t = 0 then true else if f = 2 then t = 4 ∨ t = 5 else t = 2 ∧ (f = 4 ∨ f = 5)

set_option maxHeartbeats 400000 in
theorem may_any (f t : Int) (w : World) :
    Calls Try.prog 22 #[.int .i64 f, .int .i64 t] w fun e w' => e = .returned (.bool (mayB f t)) ∧ w = w' := by
  go_enter Try.func22, Try.ntmps22
  go_wp2
  all_goals
    go_ret
    exact ⟨by simp_all [mayB, Bool.beq_eq_decide_eq], rfl⟩


end Go.Proofs.Ytajjelfeldofgaa
