/- Compounds: calls at any frame that is of no compound. -/
import Derived.Test.YtdomdjfecnbenaaN
set_option linter.unusedVariables false
set_option linter.unusedSimpArgs false
namespace Go.Proofs.Ytdomdjfecnbenaa
open Go.RowKit Go.Own

set_option maxHeartbeats 400000 in
theorem find_none (B p : Nat) (v u : Value) (L : List Cp) (Q : List Int) (f : Int) (hf : f < 9223372036854775808) (w : World) (hR : RepC w B p v u L Q) (hn : whA L f = -1) :
    Calls Try.prog 28 #[.pointer (some ⟨p, 0, none⟩), .int .i64 f] w fun e w' => e = .returned (.tuple #[.int .i64 0, .int .i64 6]) ∧ Keep (fun _ => False) w w' := by
  have HN := Lib.hid hn
  have HF := Lib.hid hf
  clear hn hf
  go_enter Try.func28, Try.ntmps28
  go_wp2_with (go_at_call 26; refine (where_all B p v u L Q f HF.out _ hR).mono ?_; rw [HN.out]; rintro e w1 ⟨rfl, hk1⟩)
  go_ret2
  exact ⟨rfl, hk1⟩

set_option maxHeartbeats 400000 in
theorem lose_none (B p : Nat) (v u : Value) (L : List Cp) (Q : List Int) (f : Int) (hf : f < 9223372036854775808) (w : World) (hR : RepC w B p v u L Q) (hn : whA L f = -1) :
    Calls Try.prog 11 #[.pointer (some ⟨p, 0, none⟩), .int .i64 f] w fun e w' => e = .returned (.tuple #[.bool false, .int .i64 6]) ∧ Keep (fun _ => False) w w' := by
  have HF := Lib.hid hf
  clear hf
  go_enter Try.func11, Try.ntmps11
  go_wp2_with (go_at_call 28; refine (find_none B p v u L Q f HF.out _ hR hn).mono ?_; rintro e w1 ⟨rfl, hk1⟩)
  go_ret2
  exact ⟨rfl, hk1⟩

set_option maxHeartbeats 400000 in
theorem regain_none (B p : Nat) (v u : Value) (L : List Cp) (Q : List Int) (f : Int) (hf : f < 9223372036854775808) (w : World) (hR : RepC w B p v u L Q) (hn : whA L f = -1) :
    Calls Try.prog 21 #[.pointer (some ⟨p, 0, none⟩), .int .i64 f] w fun e w' => e = .returned (.int .i64 6) ∧ Keep (fun _ => False) w w' := by
  have HF := Lib.hid hf
  clear hf
  go_enter Try.func21, Try.ntmps21
  go_wp2_with (go_at_call 28; refine (find_none B p v u L Q f HF.out _ hR hn).mono ?_; rintro e w1 ⟨rfl, hk1⟩)
  go_ret
  exact ⟨rfl, hk1⟩

set_option maxHeartbeats 400000 in
theorem split_none (B p : Nat) (v u : Value) (L : List Cp) (Q : List Int) (f : Int) (hf : f < 9223372036854775808) (w : World) (hR : RepC w B p v u L Q) (hn : whA L f = -1) :
    Calls Try.prog 16 #[.pointer (some ⟨p, 0, none⟩), .int .i64 f] w fun e w' => e = .returned (.tuple #[.slice none 0 0, .int .i64 6]) ∧ Keep (fun _ => False) w w' := by
  have HF := Lib.hid hf
  clear hf
  go_enter Try.func16, Try.ntmps16
  go_wp2_with (go_at_call 28; refine (find_none B p v u L Q f HF.out _ hR hn).mono ?_; rintro e w1 ⟨rfl, hk1⟩)
  go_ret2
  exact ⟨rfl, hk1⟩

end Go.Proofs.Ytdomdjfecnbenaa
