/- Compounds: where, at any frame. -/
import Derived.Test.YtdomdjfecnbenaaD
set_option linter.unusedVariables false
set_option linter.unusedSimpArgs false
namespace Go.Proofs.Ytdomdjfecnbenaa
open Go.RowKit Go.Own

theorem and_hi (x : Nat) (hx : x < 2 ^ 64) : x &&& (2 ^ 64 - 8) = x / 8 * 8 := by
  apply Nat.eq_of_testBit_eq
  intro i
  rw [Nat.testBit_and, show (2 : Nat) ^ 64 - 8 = 2 ^ 64 - (7 + 1) by decide, Nat.testBit_two_pow_sub_succ (by decide), show (7 : Nat) = 2 ^ 3 - 1 by decide, Nat.testBit_two_pow_sub_one]
  rw [show x / 8 * 8 = (x / 2 ^ 3) * 2 ^ 3 by rfl, Nat.testBit_mul_two_pow, Nat.testBit_div_two_pow]
  by_cases h3 : 3 ≤ i
  · rw [show i - 3 + 3 = i by omega]
    by_cases h64 : i < 64
    · simp [h3, h64]
    · have : x.testBit i = false := Nat.testBit_lt_two_pow (Nat.lt_of_lt_of_le hx (Nat.pow_le_pow_right (by decide) (by omega)))
      simp [this]
  · simp [h3]; omega
theorem an7_any (x : Nat) (hx : x < 9223372036854775808) : bits .andNot .i64 (x : Int) 7 = ((x / 8 * 8 : Nat) : Int) := by
  show IntKind.i64.wrap ((BitVec.ofInt 64 (x : Int) &&& ~~~BitVec.ofInt 64 ((7 : Nat) : Int)).toNat : Int) = _
  rw [BitVec.toNat_and, BitVec.toNat_not, ofInt_u64 x (by omega), ofInt_u64 7 (by omega)]
  have e : 2 ^ 64 - 1 - 7 = 2 ^ 64 - 8 := by decide
  rw [e, and_hi x (by omega)]
  have h2 : x / 8 * 8 < 9223372036854775808 := by omega
  have e2 : ((x / 8 * 8 : Nat) : Int) % 2 ^ 64 = ((x / 8 * 8 : Nat) : Int) := Int.emod_eq_of_lt (by omega) (by omega)
  simp only [IntKind.wrap, IntKind.bits, IntKind.signed, e2]
  rw [if_neg]
  simp
  omega

set_option maxHeartbeats 400000 in
theorem down_all (x : Nat) (hx : x < 9223372036854775808) (w : World) : Calls Try.prog 36 #[.int .i64 x, .int .i64 3] w fun e w' => e = .returned (.int .i64 ((x / 8 * 8 : Nat) : Int)) ∧ w = w' := by
  have h7 := an7_any x hx
  go_enter Try.func36, Try.ntmps36
  go_wp2_with (go_at_call 35; refine (order3 _).mono ?_; rintro e w1 ⟨rfl, rfl⟩)
  go_ret
  exact ⟨rfl, rfl⟩

/-- The place of a frame's compound. -/
def whA (L : List Cp) (f : Int) : Int := if f < 0 then -1 else whI L ((f.toNat / 8 * 8 : Nat) : Int)

set_option maxRecDepth 100000 in
set_option maxHeartbeats 1000000 in
theorem where_all (B p : Nat) (v u : Value) (L : List Cp) (Q : List Int) (f : Int) (hf : f < 9223372036854775808) (w : World) (hR : RepC w B p v u L Q) :
    Calls Try.prog 26 #[.pointer (some ⟨p, 0, none⟩), .int .i64 f] w fun e w' => e = .returned (.int .i64 (whA L f)) ∧ Keep (fun _ => False) w w' := by
  have hc0 := hR.c0
  have hpl := block_lt hR.hp
  by_cases h0 : f < 0
  · have hA : Hid (whA L f = -1) := by unfold Hid whA; rw [if_pos h0]
    go_enter Try.func26, Try.ntmps26
    go_wp2
    go_ret
    exact ⟨ret_int hA.out.symm, Keep.refl _ _⟩
  · obtain ⟨x, rfl⟩ := Int.eq_ofNat_of_zero_le (show 0 ≤ f by omega)
    have hA : Hid (whA L (x : Int) = whI L ((x / 8 * 8 : Nat) : Int)) := by unfold Hid whA; rw [if_neg h0]; rfl
    have HX := Lib.hid (show x < 9223372036854775808 by omega)
    clear h0 hf
    go_enter Try.func26, Try.ntmps26
    go_wp2_with (first | (go_at_call 36; go_loud (refine (down_all x HX.out _).mono ?_; rintro e w1 ⟨rfl, rfl⟩)) | (go_at_call 37; go_loud (refine (index_any B w.heap.size v L ((x / 8 * 8 : Nat) : Int) _ (hR.hv.keep (S := fun _ => False) (by (repeat (first | exact Keep.refl _ _ | exact Keep.refl _ _ | refine Keep.drew ?_ | refine Keep.drewN ?_ _ | refine Keep.alloc ?_ _ | refine Keep.setNew ?_ (by omega) _)); done) (fun _ _ => id)) hR.hl (by simp)).mono ?_; rintro e w2 ⟨rfl, hk2⟩; have HK2 : Hid (Keep (fun _ => False) w w2) := Keep.trans (by (repeat (first | exact Keep.refl _ _ | exact Keep.refl _ _ | refine Keep.drew ?_ | refine Keep.drewN ?_ _ | refine Keep.alloc ?_ _ | refine Keep.setNew ?_ (by omega) _)); done) hk2; clear hk2)))
    go_ret
    exact ⟨ret_int hA.out.symm, HK2.out⟩

end Go.Proofs.Ytdomdjfecnbenaa
