/- Reservations: the page of any number. -/
import Derived.Test.YtmbgebmhdofdaaaB
set_option linter.unusedVariables false
set_option linter.unusedSimpArgs false
namespace Go.Proofs.Ytmbgebmhdofdaaa
open Go.RowKit Go.Own

theorem and_hi (x : Nat) (hx : x < 2 ^ 64) : x &&& (2 ^ 64 - 8) = x / 8 * 8 := by
  apply Nat.eq_of_testBit_eq
  intro i
  rw [Nat.testBit_and, show (2 : Nat) ^ 64 - 8 = 2 ^ 64 - (7 + 1) by decide, Nat.testBit_two_pow_sub_succ (by decide), show (7 : Nat) = 2 ^ 3 - 1 by decide, Nat.testBit_two_pow_sub_one]
  rw [show x / 8 * 8 = (x / 2 ^ 3) * 2 ^ 3 by rfl, Nat.testBit_mul_two_pow, Nat.testBit_div_two_pow]
  by_cases h3 : 3 ≤ i
  · rw [show i - 3 + 3 = i by omega]
    by_cases h64 : i < 64
    · simp [h3, h64]
    · have : x.testBit i = false := Nat.testBit_lt_two_pow (Nat.lt_of_lt_of_le hx (Nat.pow_le_pow_right (by decide) (by omega)))
      simp [this]
  · simp [h3]; omega
/-- The multiple of 8 at or below any number. -/
theorem an7_int (x : Int) (h : -9223372036854775808 ≤ x ∧ x < 9223372036854775808) : bits .andNot .i64 x 7 = x / 8 * 8 := by
  obtain ⟨N, hN⟩ : ∃ N : Nat, (N : Int) = x % 18446744073709551616 := ⟨(x % 18446744073709551616).toNat, by omega⟩
  have e0 : (BitVec.ofInt 64 x).toNat = N := by
    rw [BitVec.toNat_ofInt]
    show (x % 18446744073709551616).toNat = N
    omega
  have e7 : (BitVec.ofInt 64 ((7 : Nat) : Int)).toNat = 7 := by decide
  show IntKind.i64.wrap ((BitVec.ofInt 64 x &&& ~~~BitVec.ofInt 64 ((7 : Nat) : Int)).toNat : Int) = _
  rw [BitVec.toNat_and, BitVec.toNat_not, e0, e7]
  have e : 2 ^ 64 - 1 - 7 = 2 ^ 64 - 8 := by decide
  rw [e, and_hi N (by omega)]
  have e2 : ((N / 8 * 8 : Nat) : Int) % 2 ^ 64 = ((N / 8 * 8 : Nat) : Int) := Int.emod_eq_of_lt (by omega) (by omega)
  simp only [IntKind.wrap, IntKind.bits, IntKind.signed, e2]
  split
  · next hc => simp at hc; omega
  · next hc => simp at hc; omega
set_option maxHeartbeats 400000 in
theorem down_int (x : Int) (h : -9223372036854775808 ≤ x ∧ x < 9223372036854775808) (w : World) : Calls Try.prog 35 #[.int .i64 x, .int .i64 3] w fun e w' => e = .returned (.int .i64 (x / 8 * 8)) ∧ w' = w := by
  have h7 := an7_int x h
  obtain ⟨z, hz⟩ : ∃ z, x / 8 * 8 = z := ⟨_, rfl⟩
  rw [hz] at h7 ⊢
  clear hz
  go_enter Try.func35, Try.ntmps35
  go_wp2_with (go_at_call 41; refine (order3 _).mono ?_; rintro e w1 ⟨rfl, rfl⟩)
  go_ret
  exact ⟨rfl, rfl⟩

end Go.Proofs.Ytmbgebmhdofdaaa
