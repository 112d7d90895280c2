/- The reference's May. -/
import Derived.Test.YtajjelfeldofgaaC
namespace Go.Proofs.Ytajjelfeldofgaa
open Go.RowKit Go.Own

set_option maxHeartbeats 1000000 in
theorem rmay_any (a b : Nat) (w : World) (ha : a < 6) (hb : b < 6) :
    Calls Try.prog 23 #[.int .i64 a, .int .i64 b] w fun e w' => e = .returned (.bool (mayB a b)) ∧ Keep (fun _ => False) w w' := by
  rcases (by omega : a = 0 ∨ a = 1 ∨ a = 2 ∨ a = 3 ∨ a = 4 ∨ a = 5) with rfl | rfl | rfl | rfl | rfl | rfl <;>
  rcases (by omega : b = 0 ∨ b = 1 ∨ b = 2 ∨ b = 3 ∨ b = 4 ∨ b = 5) with rfl | rfl | rfl | rfl | rfl | rfl
  all_goals
    go_enter Try.func23, Try.ntmps23
    go_wp2
    go_ret
    exact ⟨rfl, (Keep.refl _ _).alloc _⟩

end Go.Proofs.Ytajjelfeldofgaa
