/- Buddy: Same; the reference's Take. -/
import Derived.Test.YtnjcchgbkemekaaAC
set_option linter.unusedVariables false
set_option linter.unusedSimpArgs false
namespace Go.Proofs.Ytnjcchgbkemekaa
open Go.RowKit Go.Own

set_option maxHeartbeats 1000000 in
theorem same_bk (B C : Nat) (v u : Value) (X : List Bk) (w : World) (hv : OwnL bkE w B 49 v X) (hu : OwnL bkE w C 49 u X) (hl : X.length ≤ 1000000) :
    Calls Try.prog 19 #[v, u] w fun e w' => e = .returned (.bool true) ∧ Keep (fun _ => False) w w' := by
  obtain ⟨a1, c1, rfl, hag1⟩ := hv.slice
  obtain ⟨a2, c2, rfl, hag2⟩ := hu.slice
  have HAG1 := Lib.hid hag1
  have HAG2 := Lib.hid hag2
  clear hag1 hag2
  go_enter Try.func19, Try.ntmps19
  go_wp2
  go_loopw [5] (fun i wr => ∃ k : Nat, k ≤ X.length ∧ i = .int .i64 k ∧ Keep (fun _ => False) w wr) (fun i _ => X.length - (intOf i).toNat)
  case atStart => exact ⟨0, by omega, rfl, Keep.refl _ _⟩
  case round =>
    obtain ⟨k, hk, rfl, hkeep⟩ := hrel
    have HK := Lib.hid hkeep
    clear hkeep
    by_cases hlt : k < X.length
    · obtain ⟨g, rfl⟩ := HAG1.out (by intro e; rw [e] at hlt; simp at hlt)
      obtain ⟨g2, rfl⟩ := HAG2.out (by intro e; rw [e] at hlt; simp at hlt)
      obtain ⟨c0, c1⟩ := bk_cells (hv.keep HK.out (fun _ _ => id)) hlt
      obtain ⟨d0, d1⟩ := bk_cells (hu.keep HK.out (fun _ _ => id)) hlt
      go_wp2
      go_quiet (fail)
      go_wp2
      go_roundw
      case rel => exact ⟨k + 1, by omega, by go_num, HK.out.drewN _⟩
      case measure => simp [intOf]; omega
    · go_wp2
      go_ret
      exact ⟨rfl, HK.out⟩

end Go.Proofs.Ytnjcchgbkemekaa
