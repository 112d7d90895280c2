/- Buddy: blocks of frames that are free as a whole and lie in no greater one; what a block that comes or goes changes. Plain. -/
import Derived.Test.YtnjcchgbkemekaaLib
set_option linter.unusedVariables false
set_option linter.unusedSimpArgs false
namespace Go.Proofs.Ytnjcchgbkemekaa
open Go.RowKit Go.Own

def dn (k a : Nat) : Nat := a / 2 ^ k * 2 ^ k
def blk (F : Nat → Bool) (k a : Nat) : Prop := ∀ i, a ≤ i → i < a + 2 ^ k → F i = true
/-- A free block of the order k at a, in no greater one. -/
def mx (F : Nat → Bool) (k a : Nat) : Prop := k ≤ 8 ∧ a % 2 ^ k = 0 ∧ blk F k a ∧ ¬ (k < 8 ∧ blk F (k + 1) (dn (k + 1) a))

theorem p2 (k : Nat) : 0 < 2 ^ k := Nat.pow_pos (by decide)
theorem p2s (k : Nat) : 2 ^ (k + 1) = 2 * 2 ^ k := by rw [Nat.pow_succ]; omega
theorem dn_le (k a : Nat) : dn k a ≤ a := Nat.div_mul_le_self a _
theorem dn_lt (k a : Nat) : a < dn k a + 2 ^ k := by
  unfold dn
  have h1 := Nat.div_add_mod a (2 ^ k)
  have h2 := Nat.mod_lt a (p2 k)
  rw [Nat.mul_comm] at h1; omega
theorem dn_mod (k a : Nat) : dn k a % 2 ^ k = 0 := Nat.mul_mod_left _ _
theorem dn_self {k a : Nat} (h : a % 2 ^ k = 0) : dn k a = a := by
  unfold dn
  have h1 := Nat.div_add_mod a (2 ^ k)
  rw [Nat.mul_comm] at h1; omega
theorem dn_dn (k a : Nat) : dn (k + 1) (dn k a) = dn (k + 1) a := by
  unfold dn
  rw [Nat.pow_succ, ← Nat.div_div_eq_div_mul, ← Nat.div_div_eq_div_mul, Nat.mul_div_cancel _ (p2 k)]
/-- Two even blocks: one lies in the other, or they are apart. -/
theorem dy {j k d c : Nat} (hjk : j ≤ k) (hd : d % 2 ^ j = 0) (hc : c % 2 ^ k = 0) : (c ≤ d ∧ d + 2 ^ j ≤ c + 2 ^ k) ∨ d + 2 ^ j ≤ c ∨ c + 2 ^ k ≤ d := by
  obtain ⟨x, rfl⟩ := Nat.dvd_of_mod_eq_zero hd
  obtain ⟨y, rfl⟩ := Nat.dvd_of_mod_eq_zero hc
  obtain ⟨m, hm⟩ : ∃ m, 2 ^ k = 2 ^ j * m := ⟨2 ^ (k - j), by rw [← Nat.pow_add]; congr 1; omega⟩
  rw [hm]
  generalize 2 ^ j = p
  have e1 : p * m * y = p * (m * y) := Nat.mul_assoc _ _ _
  have e2 : p * m * y + p * m = p * (m * y + m) := by rw [Nat.mul_add, e1]
  have e3 : p * x + p = p * (x + 1) := by rw [Nat.mul_add, Nat.mul_one]
  rw [e2, e3, e1]
  rcases Nat.lt_or_ge x (m * y) with h | h
  · exact .inr (.inl (Nat.mul_le_mul_left _ h))
  · rcases Nat.lt_or_ge x (m * y + m) with h2 | h2
    · exact .inl ⟨Nat.mul_le_mul_left _ h, Nat.mul_le_mul_left _ h2⟩
    · exact .inr (.inr (Nat.mul_le_mul_left _ h2))
theorem mod_of_le {j k c : Nat} (hjk : j ≤ k) (hc : c % 2 ^ k = 0) : c % 2 ^ j = 0 :=
  Nat.mod_eq_zero_of_dvd (Nat.dvd_trans (Nat.pow_dvd_pow 2 hjk) (Nat.dvd_of_mod_eq_zero hc))
theorem blk_in {F : Nat → Bool} {j k d c : Nat} (h : blk F k c) (h1 : c ≤ d) (h2 : d + 2 ^ j ≤ c + 2 ^ k) : blk F j d := fun i hi hj => h i (by omega) (by omega)

/-- .. with a block more. -/
def addB (F : Nat → Bool) (k c : Nat) : Nat → Bool := fun i => F i || (decide (c ≤ i) && decide (i < c + 2 ^ k))
def subB (F : Nat → Bool) (k c : Nat) : Nat → Bool := fun i => F i && !(decide (c ≤ i) && decide (i < c + 2 ^ k))
theorem addB_iff (F : Nat → Bool) (k c i : Nat) : addB F k c i = true ↔ F i = true ∨ (c ≤ i ∧ i < c + 2 ^ k) := by simp [addB]
theorem subB_iff (F : Nat → Bool) (k c i : Nat) : subB F k c i = true ↔ F i = true ∧ ¬ (c ≤ i ∧ i < c + 2 ^ k) := by
  simp only [subB, Bool.and_eq_true, Bool.not_eq_true', Bool.and_eq_false_iff, decide_eq_false_iff_not]
  exact and_congr_right fun _ => by omega

theorem mx_put {F : Nat → Bool} {k c : Nat} (hk : k ≤ 8) (hc : c % 2 ^ k = 0) (hn : ∀ i, c ≤ i → i < c + 2 ^ k → F i = false)
    (hs : k < 8 → ∃ i, dn (k + 1) c ≤ i ∧ i < dn (k + 1) c + 2 ^ (k + 1) ∧ ¬ (c ≤ i ∧ i < c + 2 ^ k) ∧ F i = false) (j d : Nat) :
    mx (addB F k c) j d ↔ mx F j d ∨ (j = k ∧ d = c) := by
  have hpk := p2 k
  have hpj := p2 j
  -- no block that is greater and holds it is free as a whole
  have big : ∀ j d, k < j → j ≤ 8 → d % 2 ^ j = 0 → d ≤ c → c + 2 ^ k ≤ d + 2 ^ j → ¬ blk (addB F k c) j d := by
    intro j d hj h8 hd h1 h2 hb
    obtain ⟨i, i1, i2, i3, i4⟩ := hs (by omega)
    have q1 := dn_le (k + 1) c
    have q2 := dn_lt (k + 1) c
    rcases dy (show k + 1 ≤ j by omega) (dn_mod (k + 1) c) hd with h | h | h
    · have := hb i (by omega) (by omega)
      rw [addB_iff, i4] at this
      rcases this with h' | h'
      · cases h'
      · exact i3 h'
    · omega
    · omega
  have same : ∀ j d, (d + 2 ^ j ≤ c ∨ c + 2 ^ k ≤ d) → (blk (addB F k c) j d ↔ blk F j d) := by
    intro j d h
    refine ⟨fun hb i h1 h2 => ?_, fun hb i h1 h2 => ?_⟩
    · have := hb i h1 h2
      rw [addB_iff] at this
      rcases this with h' | h'
      · exact h'
      · omega
    · rw [addB_iff]; exact .inl (hb i h1 h2)
  constructor
  · rintro ⟨h8, hd, hb, hp⟩
    by_cases hjk : j ≤ k
    · rcases dy hjk hd hc with h | h
      · -- inside
        by_cases hj : j = k
        · subst hj; exact .inr ⟨rfl, by omega⟩
        · exfalso
          apply hp
          refine ⟨by omega, ?_⟩
          have q1 := dn_le (j + 1) d
          have q2 := dn_lt (j + 1) d
          rcases dy (show j + 1 ≤ k by omega) (dn_mod (j + 1) d) hc with h' | h' | h'
          · intro i h1 h2
            rw [addB_iff]; exact .inr (by omega)
          · omega
          · omega
      · refine .inl ⟨h8, hd, (same j d h).mp hb, fun ⟨h1, h2⟩ => hp ⟨h1, fun i hi1 hi2 => ?_⟩⟩
        rw [addB_iff]; exact .inl (h2 i hi1 hi2)
    · rcases dy (show k ≤ j by omega) hc hd with h | h
      · exact absurd hb (big j d (by omega) h8 hd h.1 h.2)
      · refine .inl ⟨h8, hd, (same j d (by omega)).mp hb, fun ⟨h1, h2⟩ => hp ⟨h1, fun i hi1 hi2 => ?_⟩⟩
        rw [addB_iff]; exact .inl (h2 i hi1 hi2)
  · rintro (⟨h8, hd, hb, hp⟩ | ⟨rfl, rfl⟩)
    · refine ⟨h8, hd, fun i h1 h2 => by rw [addB_iff]; exact .inl (hb i h1 h2), fun ⟨h1, h2⟩ => ?_⟩
      have q1 := dn_le (j + 1) d
      have q2 := dn_lt (j + 1) d
      have q3 := dn_mod (j + 1) d
      by_cases hjk : j + 1 ≤ k
      · rcases dy hjk q3 hc with h | h
        · have := hn d (by omega) (by omega)
          rw [hb d (Nat.le_refl _) (by omega)] at this; cases this
        · exact hp ⟨h1, (same (j + 1) _ h).mp h2⟩
      · rcases dy (show k ≤ j + 1 by omega) hc q3 with h | h
        · by_cases e : k = j + 1
          · subst e
            have h3 : dn (j + 1) d = c := by omega
            have := hn d (by omega) (by omega)
            rw [hb d (Nat.le_refl _) (by omega)] at this; cases this
          · exact big (j + 1) _ (by omega) (by omega) q3 h.1 h.2 h2
        · exact hp ⟨h1, (same (j + 1) _ (by omega)).mp h2⟩
    · refine ⟨hk, hc, fun i h1 h2 => by rw [addB_iff]; exact .inr ⟨h1, h2⟩, fun ⟨h1, h2⟩ => ?_⟩
      have q1 := dn_le (j + 1) d
      have q2 := dn_lt (j + 1) d
      obtain ⟨i, i1, i2, i3, i4⟩ := hs h1
      have := h2 i i1 i2
      rw [addB_iff, i4] at this
      rcases this with h' | h'
      · cases h'
      · exact i3 h'

theorem add_sub {F : Nat → Bool} {k c : Nat} (h : blk F k c) : addB (subB F k c) k c = F := by
  funext i
  rw [Bool.eq_iff_iff, addB_iff, subB_iff]
  constructor
  · rintro (h1 | h1)
    · exact h1.1
    · exact h i h1.1 h1.2
  · intro h1
    by_cases h2 : c ≤ i ∧ i < c + 2 ^ k
    · exact .inr h2
    · exact .inl ⟨h1, h2⟩

/-- The lists say which blocks are free. -/
def Rp (S : Nat → Nat → Bool) (F : Nat → Bool) : Prop := ∀ k a, k ≤ 8 → (S k a = true ↔ mx F k a)
def putS (S : Nat → Nat → Bool) (k c : Nat) : Nat → Nat → Bool := fun j d => S j d || (decide (j = k) && decide (d = c))
def dropS (S : Nat → Nat → Bool) (k c : Nat) : Nat → Nat → Bool := fun j d => S j d && !(decide (j = k) && decide (d = c))
theorem rp_put {S : Nat → Nat → Bool} {F : Nat → Bool} {k c : Nat} (h : Rp S F) (hk : k ≤ 8) (hc : c % 2 ^ k = 0) (hn : ∀ i, c ≤ i → i < c + 2 ^ k → F i = false)
    (hs : k < 8 → ∃ i, dn (k + 1) c ≤ i ∧ i < dn (k + 1) c + 2 ^ (k + 1) ∧ ¬ (c ≤ i ∧ i < c + 2 ^ k) ∧ F i = false) : Rp (putS S k c) (addB F k c) := fun j d hj => by
  rw [mx_put hk hc hn hs, ← h j d hj]
  simp [putS]
theorem rp_drop {S : Nat → Nat → Bool} {F : Nat → Bool} {k c : Nat} (h : Rp S F) (hm : mx F k c) : Rp (dropS S k c) (subB F k c) := fun j d hj => by
  obtain ⟨hk, hc, hb, hp⟩ := hm
  have hpk := p2 k
  have e := mx_put (F := subB F k c) hk hc (fun i h1 h2 => by rw [← Bool.not_eq_true, subB_iff]; exact fun h => h.2 ⟨h1, h2⟩) (fun hk8 => by
    have : ¬ blk F (k + 1) (dn (k + 1) c) := fun h => hp ⟨hk8, h⟩
    unfold blk at this
    simp only [Classical.not_forall] at this
    obtain ⟨i, h1, h2, h3⟩ := this
    refine ⟨i, h1, h2, fun h4 => h3 (hb i h4.1 h4.2), ?_⟩
    rw [← Bool.not_eq_true, subB_iff]
    exact fun h => h3 h.1) j d
  rw [add_sub hb] at e
  have hno : ¬ mx (subB F k c) k c := fun h => by
    have := h.2.2.1 c (Nat.le_refl _) (by omega)
    rw [subB_iff] at this
    exact this.2 ⟨Nat.le_refl _, by omega⟩
  have h1 := h j d hj
  rw [e] at h1
  have e2 : dropS S k c j d = true ↔ S j d = true ∧ ¬ (j = k ∧ d = c) := by
    simp only [dropS, Bool.and_eq_true, Bool.not_eq_true', Bool.and_eq_false_iff, decide_eq_false_iff_not]
    exact and_congr_right fun _ => by omega
  rw [e2, h1]
  constructor
  · rintro ⟨h2 | h2, h3⟩
    · exact h2
    · exact absurd h2 h3
  · intro h2
    exact ⟨.inl h2, fun ⟨e3, e4⟩ => hno (by rw [e3, e4] at h2; exact h2)⟩

theorem mx_up {F : Nat → Bool} (i : Nat) : ∀ n k, k + n = 8 → blk F k (dn k i) → ∃ j, k ≤ j ∧ mx F j (dn j i)
  | 0, k, h, hb => ⟨k, Nat.le_refl _, by omega, dn_mod k i, hb, fun h' => by omega⟩
  | n + 1, k, h, hb => by
    by_cases hb2 : blk F (k + 1) (dn (k + 1) i)
    · obtain ⟨j, h1, h2⟩ := mx_up i n (k + 1) (by omega) hb2
      exact ⟨j, by omega, h2⟩
    · exact ⟨k, Nat.le_refl _, by omega, dn_mod k i, hb, fun h' => by rw [dn_dn] at h'; exact hb2 h'.2⟩
/-- The block that holds a free frame. -/
theorem mx_of {F : Nat → Bool} {i : Nat} (h : F i = true) : ∃ k, mx F k (dn k i) := by
  obtain ⟨j, _, hj⟩ := mx_up (F := F) i 8 0 rfl (fun a h1 h2 => by
    have q1 := dn_le 0 i
    have q2 := dn_lt 0 i
    simp at q2 h2
    have : a = i := by omega
    rw [this]; exact h)
  exact ⟨j, hj⟩
theorem mx_le {F : Nat → Bool} {k j a b i : Nat} (hjk : j ≤ k) (ha : mx F k a) (hb : mx F j b) (h1 : a ≤ i) (h2 : i < a + 2 ^ k) (h3 : b ≤ i) (h4 : i < b + 2 ^ j) : k = j ∧ a = b := by
  have h5 := dy hjk hb.2.1 ha.2.1
  by_cases e : j = k
  · subst e; exact ⟨rfl, by omega⟩
  · exfalso
    apply hb.2.2.2
    have q1 := dn_le (j + 1) b
    have q2 := dn_lt (j + 1) b
    have hp := p2 j
    have h8 := ha.1
    refine ⟨by omega, ?_⟩
    rcases dy (show j + 1 ≤ k by omega) (dn_mod (j + 1) b) ha.2.1 with h' | h'
    · exact blk_in ha.2.2.1 h'.1 h'.2
    · exfalso; omega
theorem mx_uniq {F : Nat → Bool} {k j a b i : Nat} (ha : mx F k a) (hb : mx F j b) (h1 : a ≤ i) (h2 : i < a + 2 ^ k) (h3 : b ≤ i) (h4 : i < b + 2 ^ j) : k = j ∧ a = b := by
  rcases Nat.le_total j k with h | h
  · exact mx_le h ha hb h1 h2 h3 h4
  · obtain ⟨h5, h6⟩ := mx_le h hb ha h3 h4 h1 h2
    exact ⟨h5.symm, h6.symm⟩
theorem mx_free {F : Nat → Bool} {k a i : Nat} (h : mx F k a) (h1 : a ≤ i) (h2 : i < a + 2 ^ k) : F i = true := h.2.2.1 i h1 h2

end Go.Proofs.Ytnjcchgbkemekaa
