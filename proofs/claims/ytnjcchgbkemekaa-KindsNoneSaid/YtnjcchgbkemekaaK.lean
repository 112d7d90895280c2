/- Buddy: Greatest, Give. -/
import Derived.Test.YtnjcchgbkemekaaJ
set_option linter.unusedVariables false
set_option linter.unusedSimpArgs false
namespace Go.Proofs.Ytnjcchgbkemekaa
open Go.RowKit Go.Own

def GreatC (F : Nat → Bool) (w : World) (e : Ending) (w' : World) : Prop :=
  ((∃ k b, mx F k b ∧ (∀ j b, k < j → ¬ mx F j b) ∧ e = .returned (.int .i64 (k : Nat))) ∨ ((∀ j b, ¬ mx F j b) ∧ e = .returned (.int .i64 (-1)))) ∧ Keep (fun _ => False) w w'
set_option maxHeartbeats 400000 in
theorem give_nil (f o : Int) (w : World) : Calls Try.prog 40 #[.pointer none, .int .i64 f, .int .i64 o] w fun e w' => e = .returned (.int .i64 1) ∧ Keep (fun _ => False) w w' := by
  go_enter Try.func40, Try.ntmps40
  go_wp2_with (go_at_call 49; refine (wrong_nil f o _).mono ?_; rintro e w1 ⟨rfl, hk1⟩)
  go_ret
  exact ⟨rfl, hk1⟩
set_option maxHeartbeats 1000000 in
theorem give_bad {w : World} {B p n : Nat} {F : Nat → Bool} {G : Nat → Prop} (f o : Int) (h : BF w B p n F G) (hw : wrE n f o ≠ 0) :
    Calls Try.prog 40 #[.pointer (some ⟨p, 0, none⟩), .int .i64 f, .int .i64 o] w fun e w' => e = .returned (.int .i64 (wrE n f o)) ∧ Keep (fun _ => False) w w' := by
  obtain ⟨S, h1, h2, h3⟩ := h
  have HW := Lib.hid (wrong_any f o h1)
  obtain ⟨z, hz⟩ : ∃ z, wrE n f o = z := ⟨_, rfl⟩
  rw [hz] at hw HW ⊢
  have t1 : (z != 0) = true := by rw [bne_iff_ne]; exact hw
  clear hz hw
  go_enter Try.func40, Try.ntmps40
  go_wp2_with (go_at_call 49; refine HW.out.mono ?_; rintro e w1 ⟨rfl, hk1⟩)
  go_ret
  exact ⟨rfl, hk1⟩

/-- The other half. -/
def oth (k a : Nat) : Nat := if a / 2 ^ k % 2 = 0 then a + 2 ^ k else a - 2 ^ k
theorem xor_pow : ∀ o : Fin 9, ∀ f : Fin 1024, f.val % 2 ^ o.val = 0 → bits .xor .i64 (f.val : Int) ((2 ^ o.val : Nat) : Int) = ((oth o.val f.val : Nat) : Int) := by decide +kernel
theorem oth_spec {k a : Nat} (ha : a % 2 ^ k = 0) : (oth k a = a + 2 ^ k ∧ dn (k + 1) a = a) ∨ (oth k a + 2 ^ k = a ∧ dn (k + 1) a = oth k a) := by
  have h1 := Nat.div_add_mod a (2 ^ k)
  rw [ha, Nat.add_zero] at h1
  unfold oth dn
  rw [Nat.pow_succ, ← Nat.div_div_eq_div_mul]
  generalize a / 2 ^ k = q at h1 ⊢
  generalize 2 ^ k = P at h1 ⊢
  have h3 := Nat.div_add_mod q 2
  have h4 := Nat.mod_lt q (show 0 < 2 by decide)
  generalize q / 2 = m at h3 ⊢
  generalize q % 2 = s at h3 h4 ⊢
  have e1 : m * (P * 2) = 2 * m * P := by rw [Nat.mul_comm P 2, ← Nat.mul_assoc, Nat.mul_comm m 2]
  have e2 : P * q = 2 * m * P + s * P := by rw [Nat.mul_comm, ← h3, Nat.add_mul]
  rw [e2] at h1
  rw [e1]
  clear e1 e2 h3
  generalize 2 * m * P = X at *
  have hs : s = 0 ∨ s = 1 := by omega
  rcases hs with rfl | rfl
  · rw [Nat.zero_mul] at h1; left; simp; omega
  · rw [Nat.one_mul] at h1; right; simp; omega
/-- One turn of Give: both halves are there. -/
theorem rp_join {S : Nat → Nat → Bool} {F : Nat → Bool} {k a : Nat} (h : Rp S (subB F k a)) (hb : blk F k a) (ha : a % 2 ^ k = 0) (hk : k < 8) (hs : S k (oth k a) = true) :
    Rp (dropS S k (oth k a)) (subB F (k + 1) (min a (oth k a))) ∧ blk F (k + 1) (min a (oth k a)) ∧ min a (oth k a) % 2 ^ (k + 1) = 0 := by
  have hm := (h k (oth k a) (by omega)).mp hs
  have hr := rp_drop h hm
  have hps := p2s k
  have hp := p2 k
  have hmd := dn_mod (k + 1) a
  have hob : ∀ i, oth k a ≤ i → i < oth k a + 2 ^ k → F i = true := fun i h1 h2 => ((subB_iff F k a i).mp (hm.2.2.1 i h1 h2)).1
  rcases oth_spec ha with ⟨e1, e2⟩ | ⟨e1, e2⟩
  · rw [e2] at hmd
    rw [show min a (oth k a) = a by omega]
    refine ⟨?_, fun i h1 h2 => ?_, hmd⟩
    · have e : subB (subB F k a) k (oth k a) = subB F (k + 1) a := by
        funext i
        rw [Bool.eq_iff_iff, subB_iff, subB_iff, subB_iff]
        constructor
        · rintro ⟨⟨h1, h2⟩, h3⟩; exact ⟨h1, by omega⟩
        · rintro ⟨h1, h2⟩; exact ⟨⟨h1, by omega⟩, by omega⟩
      rw [← e]; exact hr
    · by_cases hi : i < a + 2 ^ k
      · exact hb i h1 hi
      · exact hob i (by omega) (by omega)
  · rw [e2] at hmd
    rw [show min a (oth k a) = oth k a by omega]
    refine ⟨?_, fun i h1 h2 => ?_, hmd⟩
    · have e : subB (subB F k a) k (oth k a) = subB F (k + 1) (oth k a) := by
        funext i
        rw [Bool.eq_iff_iff, subB_iff, subB_iff, subB_iff]
        constructor
        · rintro ⟨⟨h1, h2⟩, h3⟩; exact ⟨h1, by omega⟩
        · rintro ⟨h1, h2⟩; exact ⟨⟨h1, by omega⟩, by omega⟩
      rw [← e]; exact hr
    · by_cases hi : i < a
      · exact hob i h1 (by omega)
      · exact hb i (by omega) (by omega)
/-- The last one: the other half is not there, or the block is the greatest. -/
theorem rp_last {S : Nat → Nat → Bool} {F : Nat → Bool} {k a : Nat} (h : Rp S (subB F k a)) (hb : blk F k a) (ha : a % 2 ^ k = 0) (hk : k ≤ 8) (hs : k < 8 → S k (oth k a) = false) :
    Rp (putS S k a) F ∧ S k a = false := by
  have hps := p2s k
  have hp := p2 k
  have hin : ∀ i, a ≤ i → i < a + 2 ^ k → subB F k a i = false := fun i h1 h2 => by
    rw [← Bool.not_eq_true, subB_iff]
    exact fun h3 => h3.2 ⟨h1, h2⟩
  have hno : S k a = false := by
    rw [← Bool.not_eq_true, h k a hk]
    intro hx
    have h1 := hx.2.2.1 a (Nat.le_refl _) (by omega)
    rw [hin a (Nat.le_refl _) (by omega)] at h1
    cases h1
  have hr := rp_put h hk ha hin (fun hk8 => by
    have h1 := hs hk8
    have hom : oth k a % 2 ^ k = 0 := by
      rcases oth_spec ha with ⟨e1, e2⟩ | ⟨e1, e2⟩
      · rw [e1, Nat.add_mod_right]; exact ha
      · have hm := mod_of_le (Nat.le_succ k) (dn_mod (k + 1) a)
        rw [e2] at hm; exact hm
    have hdo : dn (k + 1) (oth k a) = dn (k + 1) a := by
      have q1 := dn_le (k + 1) (oth k a)
      have q2 := dn_lt (k + 1) (oth k a)
      have q3 := dn_le (k + 1) a
      have q4 := dn_lt (k + 1) a
      rcases oth_spec ha with ⟨e1, e2⟩ | ⟨e1, e2⟩ <;> rcases dy (Nat.le_refl (k + 1)) (dn_mod (k + 1) (oth k a)) (dn_mod (k + 1) a) with h' | h' <;> omega
    have h2 : ¬ mx (subB F k a) k (oth k a) := fun hm => by
      rw [(h k (oth k a) hk).mpr hm] at h1; cases h1
    have h3 : ¬ blk (subB F k a) k (oth k a) := fun hbl => h2 ⟨hk, hom, hbl, fun ⟨_, h4⟩ => by
      rw [hdo] at h4
      have q3 := dn_le (k + 1) a
      have q4 := dn_lt (k + 1) a
      have := h4 a q3 q4
      rw [hin a (Nat.le_refl _) (by omega)] at this; cases this⟩
    unfold blk at h3
    simp only [Classical.not_forall] at h3
    obtain ⟨i, h5, h6, h7⟩ := h3
    refine ⟨i, ?_, ?_, ?_, by simpa using h7⟩
    · rcases oth_spec ha with ⟨e1, e2⟩ | ⟨e1, e2⟩ <;> omega
    · rcases oth_spec ha with ⟨e1, e2⟩ | ⟨e1, e2⟩ <;> omega
    · rcases oth_spec ha with ⟨e1, e2⟩ | ⟨e1, e2⟩ <;> omega)
  rw [add_sub hb] at hr
  exact ⟨hr, hno⟩

end Go.Proofs.Ytnjcchgbkemekaa
