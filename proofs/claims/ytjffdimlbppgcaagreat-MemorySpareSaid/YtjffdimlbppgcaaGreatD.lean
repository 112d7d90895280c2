/- Buddy: the lists as sets; the object; place. -/
import Derived.Test.YtjffdimlbppgcaaGreatLib
import Derived.Test.YtjffdimlbppgcaaGreatRows
import Derived.Test.YtjffdimlbppgcaaGreatReg
import Derived.Test.YtjffdimlbppgcaaGreatIns
import Derived.KernelRfl
import Derived.Laws.ResultCell
import Derived.Deep.RegionHeld3
import Derived.Deep.RegionLaw
import Derived.Deep.RegionLawGrows
import Derived.IntWalk
import Derived.Deep.QuietTactic
import Derived.BigQuiet
import Derived.Laws.BitsAllLaws
import Derived.OwnWalk
import Derived.Laws.Externs
import Derived.WalkLawsBesides
import Derived.Test.YtjffdimlbppgcaaGreatL1
import Derived.Test.YtjffdimlbppgcaaGreatL2
import Derived.Shelf.SlicesG.SearchI
import Derived.Shelf.SlicesG.Delete
set_option linter.unusedVariables false
set_option linter.unusedSimpArgs false
namespace Go.Proofs.YtjffdimlbppgcaaGreat
open Go.RowKit Go.Own

/- Part A: Buddy: blocks of frames that are free as a whole and lie in no greater one; what a block that comes or goes changes. Plain. -/
def dn (k a : Nat) : Nat := a / 2 ^ k * 2 ^ k
def blk (F : Nat → Bool) (k a : Nat) : Prop := ∀ i, a ≤ i → i < a + 2 ^ k → F i = true
/-- A free block of the order k at a, in no greater one. -/
def mx (F : Nat → Bool) (k a : Nat) : Prop := k ≤ 8 ∧ a % 2 ^ k = 0 ∧ blk F k a ∧ ¬ (k < 8 ∧ blk F (k + 1) (dn (k + 1) a))

theorem p2 (k : Nat) : 0 < 2 ^ k := Nat.pow_pos (by decide)
theorem p2s (k : Nat) : 2 ^ (k + 1) = 2 * 2 ^ k := by rw [Nat.pow_succ]; omega
theorem dn_le (k a : Nat) : dn k a ≤ a := Nat.div_mul_le_self a _
theorem dn_lt (k a : Nat) : a < dn k a + 2 ^ k := by
  unfold dn
  have h1 := Nat.div_add_mod a (2 ^ k)
  have h2 := Nat.mod_lt a (p2 k)
  rw [Nat.mul_comm] at h1; omega
theorem dn_mod (k a : Nat) : dn k a % 2 ^ k = 0 := Nat.mul_mod_left _ _
theorem dn_self {k a : Nat} (h : a % 2 ^ k = 0) : dn k a = a := by
  unfold dn
  have h1 := Nat.div_add_mod a (2 ^ k)
  rw [Nat.mul_comm] at h1; omega
theorem dn_dn (k a : Nat) : dn (k + 1) (dn k a) = dn (k + 1) a := by
  unfold dn
  rw [Nat.pow_succ, ← Nat.div_div_eq_div_mul, ← Nat.div_div_eq_div_mul, Nat.mul_div_cancel _ (p2 k)]
/-- Two even blocks: one lies in the other, or they are apart. -/
theorem dy {j k d c : Nat} (hjk : j ≤ k) (hd : d % 2 ^ j = 0) (hc : c % 2 ^ k = 0) : (c ≤ d ∧ d + 2 ^ j ≤ c + 2 ^ k) ∨ d + 2 ^ j ≤ c ∨ c + 2 ^ k ≤ d := by
  obtain ⟨x, rfl⟩ := Nat.dvd_of_mod_eq_zero hd
  obtain ⟨y, rfl⟩ := Nat.dvd_of_mod_eq_zero hc
  obtain ⟨m, hm⟩ : ∃ m, 2 ^ k = 2 ^ j * m := ⟨2 ^ (k - j), by rw [← Nat.pow_add]; congr 1; omega⟩
  rw [hm]
  generalize 2 ^ j = p
  have e1 : p * m * y = p * (m * y) := Nat.mul_assoc _ _ _
  have e2 : p * m * y + p * m = p * (m * y + m) := by rw [Nat.mul_add, e1]
  have e3 : p * x + p = p * (x + 1) := by rw [Nat.mul_add, Nat.mul_one]
  rw [e2, e3, e1]
  rcases Nat.lt_or_ge x (m * y) with h | h
  · exact .inr (.inl (Nat.mul_le_mul_left _ h))
  · rcases Nat.lt_or_ge x (m * y + m) with h2 | h2
    · exact .inl ⟨Nat.mul_le_mul_left _ h, Nat.mul_le_mul_left _ h2⟩
    · exact .inr (.inr (Nat.mul_le_mul_left _ h2))
theorem mod_of_le {j k c : Nat} (hjk : j ≤ k) (hc : c % 2 ^ k = 0) : c % 2 ^ j = 0 :=
  Nat.mod_eq_zero_of_dvd (Nat.dvd_trans (Nat.pow_dvd_pow 2 hjk) (Nat.dvd_of_mod_eq_zero hc))
theorem blk_in {F : Nat → Bool} {j k d c : Nat} (h : blk F k c) (h1 : c ≤ d) (h2 : d + 2 ^ j ≤ c + 2 ^ k) : blk F j d := fun i hi hj => h i (by omega) (by omega)

/-- .. with a block more. -/
def addB (F : Nat → Bool) (k c : Nat) : Nat → Bool := fun i => F i || (decide (c ≤ i) && decide (i < c + 2 ^ k))
def subB (F : Nat → Bool) (k c : Nat) : Nat → Bool := fun i => F i && !(decide (c ≤ i) && decide (i < c + 2 ^ k))
theorem addB_iff (F : Nat → Bool) (k c i : Nat) : addB F k c i = true ↔ F i = true ∨ (c ≤ i ∧ i < c + 2 ^ k) := by simp [addB]
theorem subB_iff (F : Nat → Bool) (k c i : Nat) : subB F k c i = true ↔ F i = true ∧ ¬ (c ≤ i ∧ i < c + 2 ^ k) := by
  simp only [subB, Bool.and_eq_true, Bool.not_eq_true', Bool.and_eq_false_iff, decide_eq_false_iff_not]
  exact and_congr_right fun _ => by omega

theorem mx_put {F : Nat → Bool} {k c : Nat} (hk : k ≤ 8) (hc : c % 2 ^ k = 0) (hn : ∀ i, c ≤ i → i < c + 2 ^ k → F i = false)
    (hs : k < 8 → ∃ i, dn (k + 1) c ≤ i ∧ i < dn (k + 1) c + 2 ^ (k + 1) ∧ ¬ (c ≤ i ∧ i < c + 2 ^ k) ∧ F i = false) (j d : Nat) :
    mx (addB F k c) j d ↔ mx F j d ∨ (j = k ∧ d = c) := by
  have hpk := p2 k
  have hpj := p2 j
  -- no block that is greater and holds it is free as a whole
  have big : ∀ j d, k < j → j ≤ 8 → d % 2 ^ j = 0 → d ≤ c → c + 2 ^ k ≤ d + 2 ^ j → ¬ blk (addB F k c) j d := by
    intro j d hj h8 hd h1 h2 hb
    obtain ⟨i, i1, i2, i3, i4⟩ := hs (by omega)
    have q1 := dn_le (k + 1) c
    have q2 := dn_lt (k + 1) c
    rcases dy (show k + 1 ≤ j by omega) (dn_mod (k + 1) c) hd with h | h | h
    · have := hb i (by omega) (by omega)
      rw [addB_iff, i4] at this
      rcases this with h' | h'
      · cases h'
      · exact i3 h'
    · omega
    · omega
  have same : ∀ j d, (d + 2 ^ j ≤ c ∨ c + 2 ^ k ≤ d) → (blk (addB F k c) j d ↔ blk F j d) := by
    intro j d h
    refine ⟨fun hb i h1 h2 => ?_, fun hb i h1 h2 => ?_⟩
    · have := hb i h1 h2
      rw [addB_iff] at this
      rcases this with h' | h'
      · exact h'
      · omega
    · rw [addB_iff]; exact .inl (hb i h1 h2)
  constructor
  · rintro ⟨h8, hd, hb, hp⟩
    by_cases hjk : j ≤ k
    · rcases dy hjk hd hc with h | h
      · -- inside
        by_cases hj : j = k
        · subst hj; exact .inr ⟨rfl, by omega⟩
        · exfalso
          apply hp
          refine ⟨by omega, ?_⟩
          have q1 := dn_le (j + 1) d
          have q2 := dn_lt (j + 1) d
          rcases dy (show j + 1 ≤ k by omega) (dn_mod (j + 1) d) hc with h' | h' | h'
          · intro i h1 h2
            rw [addB_iff]; exact .inr (by omega)
          · omega
          · omega
      · refine .inl ⟨h8, hd, (same j d h).mp hb, fun ⟨h1, h2⟩ => hp ⟨h1, fun i hi1 hi2 => ?_⟩⟩
        rw [addB_iff]; exact .inl (h2 i hi1 hi2)
    · rcases dy (show k ≤ j by omega) hc hd with h | h
      · exact absurd hb (big j d (by omega) h8 hd h.1 h.2)
      · refine .inl ⟨h8, hd, (same j d (by omega)).mp hb, fun ⟨h1, h2⟩ => hp ⟨h1, fun i hi1 hi2 => ?_⟩⟩
        rw [addB_iff]; exact .inl (h2 i hi1 hi2)
  · rintro (⟨h8, hd, hb, hp⟩ | ⟨rfl, rfl⟩)
    · refine ⟨h8, hd, fun i h1 h2 => by rw [addB_iff]; exact .inl (hb i h1 h2), fun ⟨h1, h2⟩ => ?_⟩
      have q1 := dn_le (j + 1) d
      have q2 := dn_lt (j + 1) d
      have q3 := dn_mod (j + 1) d
      by_cases hjk : j + 1 ≤ k
      · rcases dy hjk q3 hc with h | h
        · have := hn d (by omega) (by omega)
          rw [hb d (Nat.le_refl _) (by omega)] at this; cases this
        · exact hp ⟨h1, (same (j + 1) _ h).mp h2⟩
      · rcases dy (show k ≤ j + 1 by omega) hc q3 with h | h
        · by_cases e : k = j + 1
          · subst e
            have h3 : dn (j + 1) d = c := by omega
            have := hn d (by omega) (by omega)
            rw [hb d (Nat.le_refl _) (by omega)] at this; cases this
          · exact big (j + 1) _ (by omega) (by omega) q3 h.1 h.2 h2
        · exact hp ⟨h1, (same (j + 1) _ (by omega)).mp h2⟩
    · refine ⟨hk, hc, fun i h1 h2 => by rw [addB_iff]; exact .inr ⟨h1, h2⟩, fun ⟨h1, h2⟩ => ?_⟩
      have q1 := dn_le (j + 1) d
      have q2 := dn_lt (j + 1) d
      obtain ⟨i, i1, i2, i3, i4⟩ := hs h1
      have := h2 i i1 i2
      rw [addB_iff, i4] at this
      rcases this with h' | h'
      · cases h'
      · exact i3 h'

theorem add_sub {F : Nat → Bool} {k c : Nat} (h : blk F k c) : addB (subB F k c) k c = F := by
  funext i
  rw [Bool.eq_iff_iff, addB_iff, subB_iff]
  constructor
  · rintro (h1 | h1)
    · exact h1.1
    · exact h i h1.1 h1.2
  · intro h1
    by_cases h2 : c ≤ i ∧ i < c + 2 ^ k
    · exact .inr h2
    · exact .inl ⟨h1, h2⟩

/-- The lists say which blocks are free. -/
def Rp (S : Nat → Nat → Bool) (F : Nat → Bool) : Prop := ∀ k a, k ≤ 8 → (S k a = true ↔ mx F k a)
def putS (S : Nat → Nat → Bool) (k c : Nat) : Nat → Nat → Bool := fun j d => S j d || (decide (j = k) && decide (d = c))
def dropS (S : Nat → Nat → Bool) (k c : Nat) : Nat → Nat → Bool := fun j d => S j d && !(decide (j = k) && decide (d = c))
theorem rp_put {S : Nat → Nat → Bool} {F : Nat → Bool} {k c : Nat} (h : Rp S F) (hk : k ≤ 8) (hc : c % 2 ^ k = 0) (hn : ∀ i, c ≤ i → i < c + 2 ^ k → F i = false)
    (hs : k < 8 → ∃ i, dn (k + 1) c ≤ i ∧ i < dn (k + 1) c + 2 ^ (k + 1) ∧ ¬ (c ≤ i ∧ i < c + 2 ^ k) ∧ F i = false) : Rp (putS S k c) (addB F k c) := fun j d hj => by
  rw [mx_put hk hc hn hs, ← h j d hj]
  simp [putS]
theorem rp_drop {S : Nat → Nat → Bool} {F : Nat → Bool} {k c : Nat} (h : Rp S F) (hm : mx F k c) : Rp (dropS S k c) (subB F k c) := fun j d hj => by
  obtain ⟨hk, hc, hb, hp⟩ := hm
  have hpk := p2 k
  have e := mx_put (F := subB F k c) hk hc (fun i h1 h2 => by rw [← Bool.not_eq_true, subB_iff]; exact fun h => h.2 ⟨h1, h2⟩) (fun hk8 => by
    have : ¬ blk F (k + 1) (dn (k + 1) c) := fun h => hp ⟨hk8, h⟩
    unfold blk at this
    simp only [Classical.not_forall] at this
    obtain ⟨i, h1, h2, h3⟩ := this
    refine ⟨i, h1, h2, fun h4 => h3 (hb i h4.1 h4.2), ?_⟩
    rw [← Bool.not_eq_true, subB_iff]
    exact fun h => h3 h.1) j d
  rw [add_sub hb] at e
  have hno : ¬ mx (subB F k c) k c := fun h => by
    have := h.2.2.1 c (Nat.le_refl _) (by omega)
    rw [subB_iff] at this
    exact this.2 ⟨Nat.le_refl _, by omega⟩
  have h1 := h j d hj
  rw [e] at h1
  have e2 : dropS S k c j d = true ↔ S j d = true ∧ ¬ (j = k ∧ d = c) := by
    simp only [dropS, Bool.and_eq_true, Bool.not_eq_true', Bool.and_eq_false_iff, decide_eq_false_iff_not]
    exact and_congr_right fun _ => by omega
  rw [e2, h1]
  constructor
  · rintro ⟨h2 | h2, h3⟩
    · exact h2
    · exact absurd h2 h3
  · intro h2
    exact ⟨.inl h2, fun ⟨e3, e4⟩ => hno (by rw [e3, e4] at h2; exact h2)⟩

theorem mx_up {F : Nat → Bool} (i : Nat) : ∀ n k, k + n = 8 → blk F k (dn k i) → ∃ j, k ≤ j ∧ mx F j (dn j i)
  | 0, k, h, hb => ⟨k, Nat.le_refl _, by omega, dn_mod k i, hb, fun h' => by omega⟩
  | n + 1, k, h, hb => by
    by_cases hb2 : blk F (k + 1) (dn (k + 1) i)
    · obtain ⟨j, h1, h2⟩ := mx_up i n (k + 1) (by omega) hb2
      exact ⟨j, by omega, h2⟩
    · exact ⟨k, Nat.le_refl _, by omega, dn_mod k i, hb, fun h' => by rw [dn_dn] at h'; exact hb2 h'.2⟩
/-- The block that holds a free frame. -/
theorem mx_of {F : Nat → Bool} {i : Nat} (h : F i = true) : ∃ k, mx F k (dn k i) := by
  obtain ⟨j, _, hj⟩ := mx_up (F := F) i 8 0 rfl (fun a h1 h2 => by
    have q1 := dn_le 0 i
    have q2 := dn_lt 0 i
    simp at q2 h2
    have : a = i := by omega
    rw [this]; exact h)
  exact ⟨j, hj⟩
theorem mx_le {F : Nat → Bool} {k j a b i : Nat} (hjk : j ≤ k) (ha : mx F k a) (hb : mx F j b) (h1 : a ≤ i) (h2 : i < a + 2 ^ k) (h3 : b ≤ i) (h4 : i < b + 2 ^ j) : k = j ∧ a = b := by
  have h5 := dy hjk hb.2.1 ha.2.1
  by_cases e : j = k
  · subst e; exact ⟨rfl, by omega⟩
  · exfalso
    apply hb.2.2.2
    have q1 := dn_le (j + 1) b
    have q2 := dn_lt (j + 1) b
    have hp := p2 j
    have h8 := ha.1
    refine ⟨by omega, ?_⟩
    rcases dy (show j + 1 ≤ k by omega) (dn_mod (j + 1) b) ha.2.1 with h' | h'
    · exact blk_in ha.2.2.1 h'.1 h'.2
    · exfalso; omega
theorem mx_uniq {F : Nat → Bool} {k j a b i : Nat} (ha : mx F k a) (hb : mx F j b) (h1 : a ≤ i) (h2 : i < a + 2 ^ k) (h3 : b ≤ i) (h4 : i < b + 2 ^ j) : k = j ∧ a = b := by
  rcases Nat.le_total j k with h | h
  · exact mx_le h ha hb h1 h2 h3 h4
  · obtain ⟨h5, h6⟩ := mx_le h hb ha h3 h4 h1 h2
    exact ⟨h5.symm, h6.symm⟩
theorem mx_free {F : Nat → Bool} {k a i : Nat} (h : mx F k a) (h1 : a ≤ i) (h2 : i < a + 2 ^ k) : F i = true := h.2.2.1 i h1 h2

/- Part B: Buddy: rows of numbers; slices.Insert of one number, anywhere. -/
def inE : Enc Int where
  c := fun x => [.int .i64 x]
  k := 1
  hk := by decide
  len := fun _ => rfl
  one := fun x u hu => by simp at hu; subst hu; rfl
theorem info3 : (Tryz.prog.info? 3).map (fun i => (i.zero, i.size, i.bytes)) = some (some (.int .i64 0), 1, 8) := by kernel_rfl
theorem et60 : ET Tryz.prog 48 3 (.int .i64 0) 1 8 := ⟨Tryz.underlying48, info3, rfl, by decide⟩
theorem in_cell {w : World} {B : Nat} {g n cap i : Nat} {Q : List Int} (h : OwnL inE w B 3 (.slice (some ⟨g, 0, none⟩) n cap) Q) (hi : i < Q.length) :
    w.cell? ⟨g, i, none⟩ = some (.int .i64 Q[i]) := by
  have := OwnL.cell (j := 0) h hi (by decide)
  simpa [inE] using this
theorem typ_ne {w : World} {a b : Nat} {c1 c2 : Array Value} {e1 e2 : TypeId} {z1 z2 : Nat × Nat} (h1 : w.heap[a]? = some (.cells c1 e1 z1)) (h2 : w.heap[b]? = some (.cells c2 e2 z2)) (he : e1 ≠ e2) : a ≠ b := by
  intro e; subst e
  rw [h1] at h2
  simp only [Option.some.injEq, Obj.cells.injEq] at h2
  exact he h2.2.1
theorem own_typ {α : Type} {E : Enc α} {w : World} {B : Nat} {e : TypeId} {v : Value} {L : List α} (h : OwnL E w B e v L) {x : Nat} (hx : v.ownBlock = some x) : ∃ c, w.heap[x]? = some (.cells c e (0, 0)) := by
  rcases h.2 with ⟨rfl, _⟩ | ⟨g, cap, cur, rfl, _, hg, _⟩
  · cases hx
  · simp only [Value.ownBlock, Option.some.injEq] at hx; subst hx; exact ⟨cur, hg⟩
theorem _root_.Go.Own.Keep.on {S T : Nat → Prop} {a b c : World} (h : Keep S a b) (k : Keep T b c) (hT : ∀ z, z < a.heap.size → T z → S z) : Keep S a c :=
  ⟨k.os.trans h.os, k.tape.trans h.tape, k.output.trans h.output, Nat.le_trans h.size k.size, fun z hz hs => (k.block z (Nat.lt_of_lt_of_le hz h.size) (fun e => hs (hT z hz e))).trans (h.block z hz hs)⟩

set_option maxHeartbeats 1000000 in
theorem insert_end (B : Nat) (v : Value) (L : List Int) (y : Int) (ad : Addr) (c : Nat) (w : World) (hB : B ≤ w.heap.size) (hv : OwnL inE w B 3 v L) (hl : L.length ≤ 2000) (hy : Reads w (.slice (some ad) 1 c) 1 inE.k (inE.c y)) :
    Calls Tryz.prog 102 #[v, .int .i64 L.length, .slice (some ad) 1 c] w fun e w' => ∃ v', e = .returned v' ∧ OwnL inE w' B 3 v' (L ++ [y]) ∧ w.grownBy w' v.ownBlock := by
  obtain ⟨vhi, hhi, -⟩ := sl_hi et60 hv (i := L.length) (Nat.le_refl _) ↑L.length rfl
  obtain ⟨a, c0, rfl, -⟩ := hv.slice
  go_enter Tryz.func102, Tryz.ntmps102
  go_wp2_with (at_builtin; refine wpl_app et60 rfl (.tmp 23) (.tmp 24) rfl B _ L.length (inE.cs L) rfl hv (.slice (some ad) 1 c) 1 (inE.c y) rfl hy (inE.one y) (by unfold maxLen; omega) (by omega) hB ?_; intro v1 w1 hown1 hgrow1)
  go_ret
  refine ⟨_, rfl, ?_, hgrow1⟩
  unfold OwnL
  rw [List.length_append, inE.cs_append, inE.cs_one]
  exact hown1


def InsO (v : Value) (L : List Int) (i : Nat) (y : Int) (B : Nat) (w : World) (e : Ending) (w' : World) : Prop :=
  ∃ v', e = .returned v' ∧ OwnL inE w' B 3 v' (insAt L i y) ∧ Keep (fun x => v.ownBlock = some x) w w' ∧ ∀ x, v'.ownBlock = some x → v.ownBlock = some x ∨ w.heap.size ≤ x

theorem ins_O_place {w w2 : World} {B g cap i n1 : Nat} {L : List Int} {y : Int} {cur : List Value} (h : OwnL inE w B 3 (.slice (some ⟨g, 0, none⟩) L.length cap) L) (hi : i < L.length) (hroom : L.length + 1 ≤ cap)
    (hc : cur.length = cap * inE.k) (ht : cur.take (L.length * inE.k) = inE.cs L) (hm : cap ≤ maxLen) (hB : B ≤ g)
    (h2 : w2.heap[g]? = some (.cells (splice (splice cur ((i + 1)) (inE.cs (L.drop i))) (i) (inE.c y)).toArray 3 (0, 0))) (k2 : Keep (fun x => x = g) w w2) (hn : n1 = L.length + 1) :
    InsO (.slice (some ⟨g, 0, none⟩) L.length cap) L i y B w (.returned (.slice (some ⟨g, 0, none⟩) n1 cap)) w2 := by
  subst hn
  have hk : inE.k = 1 := rfl
  have hA : (inE.cs (L.take i)).length = i := by rw [inE.cs_length, List.length_take, Nat.min_eq_left (by omega), hk, Nat.mul_one]
  have hD : (inE.cs (L.drop i)).length = (L.length - i) := by rw [inE.cs_length, List.length_drop, hk, Nat.mul_one]
  have hY : (inE.c y).length = 1 := rfl
  have hAD : inE.cs L = inE.cs (L.take i) ++ inE.cs (L.drop i) := by rw [← inE.cs_append, List.take_append_drop]
  have hp := ins_place cur (inE.cs (L.take i)) (inE.c y) (inE.cs (L.drop i)) (by rw [hA, hD, ← hAD, ← ht, hk]; congr 1; omega) (by rw [hA, hD, hY, hc, hk]; omega)
  rw [hA, hY, hD] at hp
  refine ⟨_, rfl, OwnL.of_block h2 (by rw [insAt_length L (by omega)]) hroom hm ?_ ?_ hB, k2.mono (fun x _ h => by subst h; rfl), fun x hx => .inl hx⟩
  · rw [length_splice, length_splice]
    · exact hc
    · rw [hD, hc, hk]; omega
    · rw [length_splice]
      · rw [hY, hc, hk]; omega
      · rw [hD, hc, hk]; omega
  · rw [insAt_length L (by omega), cs_ins, ← hp, hk, show i + 1 = i + 1 from rfl]
    congr 1; omega

theorem ins_O_new {w w2 : World} {B i n1 G b : Nat} {v : Value} {L : List Int} {y : Int} {R : List Value} (hi : i < L.length) (hroom : L.length + 1 ≤ G)
    (hc : R.length = G) (ht : R.take (i) = inE.cs (L.take i)) (hm : G ≤ maxLen) (hB : B ≤ w.heap.size) (hb : b = w.heap.size)
    (h2 : w2.heap[b]? = some (.cells (splice (splice R (i) (inE.c y)) ((i + 1)) (inE.cs (L.drop i))).toArray 3 (0, 0))) (k2 : Keep (fun x => False) w w2) (hn : n1 = L.length + 1) :
    InsO v L i y B w (.returned (.slice (some ⟨b, 0, none⟩) n1 G)) w2 := by
  subst hn; subst hb
  have hk : inE.k = 1 := rfl
  have hA : (inE.cs (L.take i)).length = i := by rw [inE.cs_length, List.length_take, Nat.min_eq_left (by omega), hk, Nat.mul_one]
  have hD : (inE.cs (L.drop i)).length = (L.length - i) := by rw [inE.cs_length, List.length_drop, hk, Nat.mul_one]
  have hY : (inE.c y).length = 1 := rfl
  have hp := ins_new R (inE.cs (L.take i)) (inE.c y) (inE.cs (L.drop i)) (by rw [hA]; exact ht) (by rw [hA, hD, hY, hc]; omega)
  rw [hA, hY, hD] at hp
  refine ⟨_, rfl, OwnL.of_block h2 (by rw [insAt_length L (by omega)]) hroom hm ?_ ?_ hB, k2.mono (fun x _ h => h.elim), fun x hx => .inr (by simp [Value.ownBlock] at hx; omega)⟩
  · rw [length_splice, length_splice]
    · show _ = G * 1; omega
    · rw [hY, hc]; omega
    · rw [length_splice]
      · rw [hD, hc]; omega
      · rw [hY, hc]; omega
  · rw [insAt_length L (by omega), cs_ins, ← hp, hk, show i + 1 = i + 1 from rfl]
    congr 1; omega

theorem keep_cellA' {S : Nat → Prop} {w w' : World} (h : Keep S w w') {b : Addr} {j : Nat} (hb : b.block < w.heap.size) (hs : ¬ S b.block) : w'.cell? (b.add j) = w.cell? (b.add j) := by
  have e : (b.add j).block = b.block := by unfold Addr.add; split <;> rfl
  exact World.cell?_of_block (w := w) (h.block _ (by rw [e]; exact hb) (by rw [e]; exact hs))
theorem over_no (w : World) {g vb : Nat} {cur ys : List Value} (hne : vb ≠ g) (hg : w.heap[g]? = some (.cells cur.toArray 3 (0, 0))) (hy : w.heap[vb]? = some (.cells ys.toArray 3 (0, 0))) (h0 : cur.length ≠ 0) (off lb cb : Nat) :
    (callFunc 108 #[.slice (some ⟨vb, 0, none⟩) 1 1, .slice (some ⟨g, off, none⟩) lb cb]).run Tryz.prog w = .ok (.value (.bool false)) w := by
  rw [run_callFunc_extern Tryz.func108 (by kernel_rfl) (by kernel_rfl) (by kernel_rfl) (e := Extern.SlicesOverlaps.overlaps #[48, 48] #[4]) (by kernel_rfl),
    overlaps_apart et60 w 4 ⟨vb, 0, none⟩ ⟨g, off, none⟩ 1 1 lb cb hne hy hg (by simpa using h0)]
  rfl

set_option maxRecDepth 100000 in
set_option maxHeartbeats 4000000 in
theorem insert_place (B g cap i vb : Nat) (L : List Int) (y : Int) (w : World) (hv : OwnL inE w B 3 (.slice (some ⟨g, 0, none⟩) L.length cap) L) (hi : i < L.length) (hl : L.length ≤ 2000) (hroom : L.length + 1 ≤ cap)
    (hy : w.heap[vb]? = some (.cells (inE.c y).toArray 3 (0, 0))) (hne : vb ≠ g) :
    Calls Tryz.prog 102 #[.slice (some ⟨g, 0, none⟩) L.length cap, .int .i64 i, .slice (some ⟨vb, 0, none⟩) 1 1] w (InsO (.slice (some ⟨g, 0, none⟩) L.length cap) L i y B w) := by
  obtain ⟨cur, -, hg, hc, hm, hcl, ht, hBg⟩ := hv.block
  have hk : inE.k = 1 := rfl
  rw [hk, Nat.mul_one] at hcl
  have HO := Lib.hid hv
  have HG := Lib.hid hg
  have HY := Lib.hid hy
  have HT := Lib.hid ht
  have HM := Lib.hid hm
  have HOV := Lib.hid (over_no w hne hg hy (by omega))
  have HCL := Lib.hid hcl
  unfold maxLen at hm
  clear hv hg hy ht hcl hc
  have hw1 : IntKind.i64.wrap ((i : Int) + 1) = (i : Int) + 1 := IntWalk.i64_in _ (by omega)
  have hb1 : (0 : Int) ≤ (i : Int) + 1 := by omega
  have htn : ((i : Int) + 1).toNat = i + 1 := by omega
  have hb2 : ¬ (cap = i + 1) := by omega
  have hb3 : (i : Int) ≤ (L.length : Int) + 1 := by omega
  have hb3' : (i : Int) ≤ (L.length : Int) := by omega
  have hb4 : ¬ (cap = i) := by omega
  have hb5 : (L.length : Int) + 1 ≤ cap := by omega
  have hb6 : ¬ ((i : Int) = (L.length : Int)) := by omega
  have hdr : (inE.cs (L.drop i)).length = (L.length - i) := by rw [inE.cs_length, List.length_drop, hk, Nat.mul_one]
  have HDR := Lib.hid hdr
  clear hdr
  have hsrc : Hid (∀ j v, (inE.cs (L.drop i))[j]? = some v → w.cell? ((⟨g, i, none⟩ : Addr).add j) = some v) := by
    have h1 := HO.out.hi (i := i) (m := L.length - i) (c := 0) (o := i) (by omega) rfl (by show i = i * 1; omega)
    rcases h1.2 with ⟨h2, _⟩ | ⟨ad, c, h2, h3⟩
    · simp at h2
    · simp only [Value.slice.injEq, Option.some.injEq, true_and] at h2
      obtain ⟨rfl, _⟩ := h2
      exact h3
  go_enter Tryz.func102, Tryz.ntmps102
  go_wp2_with (simp only [HOV.out])
  go_region_law (go_loud (refine step_copyK et60 rfl (.tmp 73) (.tmp 76) (by rfl) g ((i + 1)) (L.length + 1 - (i + 1)) (cap - (i + 1)) ⟨g, i, none⟩ (L.length + 1 - i) (cap - i) (by simp [Act.eval, Act.put]) (by simp [Act.eval, Act.put]) cur 3 HG.out (L.length - i) (by simp only [Nat.min_def]; split <;> omega) (inE.cs (L.drop i)) (by rw [Nat.mul_one]; exact HDR.out) hsrc.out (by rw [HDR.out, HCL.out]; omega) (inE.cs_one_cell _) ?_; intro w1 hg1 hk1))
  all_goals
    have HG1 := hg1
    obtain ⟨hb7, hcl1⟩ : vb < w.heap.size ∧ (splice cur ((i + 1)) (inE.cs (L.drop i))).length = cap := ⟨block_lt HY.out, by rw [length_splice _ _ _ (by rw [HDR.out, HCL.out]; omega)]; exact HCL.out⟩
    have HY1 := Lib.hid ((hk1.out.block vb (by simpa using hb7) hne).trans HY.out)
    have HCL1 := Lib.hid hcl1
    clear hcl1
    go_wp2_with ((refine wpl_copyK et60 rfl (.tmp 80) (.tmp 81) rfl g (i) (L.length + 1 - i) (cap - i) ⟨vb, 0, none⟩ 1 1 (by simp [Act.eval, Act.put]) (by simp [Act.eval, Act.put]) _ 3 HG1.out 1 (by simp only [Nat.min_def]; split <;> omega) (inE.c y) rfl (fun j v hj => by rw [Addr.add_lit, Nat.zero_add, cell_block HY1.out]; simpa using hj) (by rw [HCL1.out]; show i + 1 ≤ _; omega) (inE.one y) ?_; intro w2 hg2 hk2))
    go_ret
    exact ins_O_place HO.out hi hroom (by show _ = cap * 1; rw [Nat.mul_one]; exact HCL.out) HT.out HM.out hBg hg2.out ((Keep.drew (Keep.refl _ _)).trans (hk1.out.trans hk2.out)) rfl

set_option maxRecDepth 100000 in
set_option maxHeartbeats 4000000 in
theorem insert_new (B g cap i vb : Nat) (L : List Int) (y : Int) (w : World) (hB : B ≤ w.heap.size) (hv : OwnL inE w B 3 (.slice (some ⟨g, 0, none⟩) L.length cap) L) (hi : i < L.length) (hl : L.length ≤ 2000) (hroom : cap < L.length + 1)
    (hy : w.heap[vb]? = some (.cells (inE.c y).toArray 3 (0, 0))) :
    Calls Tryz.prog 102 #[.slice (some ⟨g, 0, none⟩) L.length cap, .int .i64 i, .slice (some ⟨vb, 0, none⟩) 1 1] w (InsO (.slice (some ⟨g, 0, none⟩) L.length cap) L i y B w) := by
  obtain ⟨cur, -, hg, hc, hm, hcl, ht, hBg⟩ := hv.block
  have hk : inE.k = 1 := rfl
  rw [hk, Nat.mul_one] at hcl
  have HO := Lib.hid hv
  have HG := Lib.hid hg
  have HY := Lib.hid hy
  have hgl := block_lt hg
  have hyl := block_lt hy
  have HM := Lib.hid hm
  unfold maxLen at hm
  clear hv hg hy ht hcl
  have hw1 : IntKind.i64.wrap ((i : Int) + 1) = (i : Int) + 1 := IntWalk.i64_in _ (by omega)
  have hb1 : (0 : Int) ≤ (i : Int) + 1 := by omega
  have htn : ((i : Int) + 1).toNat = i + 1 := by omega
  have hb3 : (i : Int) ≤ (L.length : Int) + 1 := by omega
  have hb3' : (i : Int) ≤ (L.length : Int) := by omega
  have hb4 : ¬ (cap = i) := by omega
  have hb5 : (cap : Int) < (L.length : Int) + 1 := by omega
  have hb6 : ¬ ((i : Int) = (L.length : Int)) := by omega
  have hb7 : (i : Int) ≤ cap := by omega
  have hdr : (inE.cs (L.drop i)).length = (L.length - i) := by rw [inE.cs_length, List.length_drop, hk, Nat.mul_one]
  have HDR := Lib.hid hdr
  have htk : (inE.cs (L.take i)).length = i := by rw [inE.cs_length, List.length_take, Nat.min_eq_left (by omega), hk, Nat.mul_one]
  have HTK := Lib.hid htk
  clear hdr htk
  have hsrc : Hid (∀ j v, (inE.cs (L.drop i))[j]? = some v → w.cell? ((⟨g, i, none⟩ : Addr).add j) = some v) := by
    have h1 := HO.out.hi (i := i) (m := L.length - i) (c := 0) (o := i) (by omega) rfl (by show i = i * 1; omega)
    rcases h1.2 with ⟨h2, _⟩ | ⟨ad, c, h2, h3⟩
    · simp at h2
    · simp only [Value.slice.injEq, Option.some.injEq, true_and] at h2
      obtain ⟨rfl, _⟩ := h2
      exact h3
  have hsrc0 : Hid (∀ j v, (inE.cs (L.take i))[j]? = some v → w.cell? ((⟨g, 0, none⟩ : Addr).add j) = some v) := by
    have h1 := HO.out.lo (i := i) (c := 0) (by omega)
    rcases h1.2 with ⟨h2, _⟩ | ⟨ad, c, h2, h3⟩
    · simp at h2
    · simp only [Value.slice.injEq, Option.some.injEq, true_and] at h2
      obtain ⟨rfl, _⟩ := h2
      exact h3
  go_enter Tryz.func102, Tryz.ntmps102
  go_wp2_with (first
    | (refine wpl_zeros et60 rfl (.tmp 34) (.tmp 39) 3 .i64 Tryz.underlying3 rfl ⟨g, 0, none⟩ i cap rfl (L.length + 1 - i) ((L.length : Int) + 1 - (i : Int)) (by simp [Act.eval, Act.put]) (by omega) (L.length + 1) (by omega) (inE.cs (L.take i)) (by rw [Nat.mul_one]; exact HTK.out) hsrc0.out (by omega) (by omega) (by unfold maxLen; omega) (by omega) ?_; intro R G w1 hR hRt hG hGm hg1 hk1; rw [Nat.mul_one] at hR hRt; have HR := Lib.hid hR; have HRT := Lib.hid hRt; have HGM := Lib.hid hGm; unfold maxLen at hGm; have hGi : ¬ (G = i) := (by omega); have hGim : ¬ (G = i + 1) := (by omega); have hGc : (L.length : Int) + 1 ≤ G := (by omega); have hs1 := hk1.out.size; have HY1 := Lib.hid ((hk1.out.block vb hyl id).trans HY.out); have HRK : Hid (R.length = G) := hR; clear hR hRt)
    | (refine wpl_copyK et60 rfl (.tmp 43) (.tmp 44) rfl w.heap.size (i) (L.length + 1 - i) (G - i) ⟨vb, 0, none⟩ 1 1 (by simp [Act.eval, Act.put]) (by simp [Act.eval, Act.put]) _ 3 hg1.out 1 (by simp only [Nat.min_def]; split <;> omega) (inE.c y) rfl (fun j v hj => by rw [Addr.add_lit, Nat.zero_add, cell_block HY1.out]; simpa using hj) (by rw [HRK.out]; show i + 1 ≤ _; omega) (inE.one y) ?_; intro w2 hg2 hk2))
  have hcl2 : Hid ((splice R (i) (inE.c y)).length = G) := by
    unfold Hid; rw [length_splice _ _ _ (by rw [HRK.out]; show i + 1 ≤ _; omega)]; exact HRK.out
  have hsrc2 : Hid (∀ j v, (inE.cs (L.drop i))[j]? = some v → w2.cell? ((⟨g, i, none⟩ : Addr).add j) = some v) := fun j v hj =>
    (keep_cellA' hk2.out (b := ⟨g, i, none⟩) (show g < w1.heap.size by omega) (show g ≠ w.heap.size by omega)).trans ((keep_cellA' hk1.out (b := ⟨g, i, none⟩) hgl id).trans (hsrc.out j v hj))
  go_region_law (refine step_copyK et60 rfl (.tmp 50) (.tmp 53) (by rfl) w.heap.size ((i + 1)) (L.length + 1 - (i + 1)) (G - (i + 1)) ⟨g, i, none⟩ (L.length - i) (cap - i) (by simp [Act.eval, Act.put]) (by simp [Act.eval, Act.put]) _ 3 hg2.out (L.length - i) (by simp only [Nat.min_def]; split <;> omega) (inE.cs (L.drop i)) (by rw [Nat.mul_one]; exact HDR.out) hsrc2.out (by rw [HDR.out, hcl2.out]; omega) (inE.cs_one_cell _) ?_; intro w3 hg3 hk3)
  all_goals
    go_wp2
    go_ret
    exact ins_O_new hi hG HRK.out HRT.out HGM.out hB rfl hg3.out ((((hk1.out.mono (T := fun x => w.heap.size ≤ x) (fun _ _ h => h.elim)).trans (hk2.out.mono (T := fun x => w.heap.size ≤ x) (fun x _ h => by subst h; exact Nat.le_refl _))).drew.trans (hk3.out.mono (T := fun x => w.heap.size ≤ x) (fun x _ h => by subst h; exact Nat.le_refl _))).fresh (fun _ h => h) (Nat.le_refl _)) rfl

/- Part C: Buddy: slices.BinarySearch, Delete, Insert at rows of numbers. -/
theorem bs_empty (a : Option Addr) (c : Nat) (x : Int) (w : World) : Calls Tryz.prog 104 #[.slice a 0 c, .int .i64 x] w fun e w' => e = .returned (.tuple #[.int .i64 0, .bool false]) ∧ Keep (fun _ => False) w w' := by
  go_enter Tryz.func104, Tryz.ntmps104
  go_wp2
  refine wp_loop_once ?_
  go_wp2
  go_ret2
  exact ⟨rfl, (by (repeat (first | exact Keep.refl _ _ | exact Keep.refl _ _ | refine Keep.drew ?_ | refine Keep.drewN ?_ _ | refine Keep.alloc ?_ _ | refine Keep.setNew ?_ (by omega) _)); done)⟩

theorem bs_any (B : Nat) (v : Value) (L : List Int) (x : Int) (w : World) (hv : OwnL inE w B 3 v L) (hs : L.Pairwise (· ≤ ·)) (hl : L.length ≤ 2000) :
    Calls Tryz.prog 104 #[v, .int .i64 x] w fun e w' => e = .returned (.tuple #[.int .i64 (L.countP (· < x) : Nat), .bool (L.contains x)]) ∧ Keep (fun _ => False) w w' := by
  by_cases hn : L = []
  · subst hn
    obtain ⟨a, c, rfl, -⟩ := hv.slice
    refine (bs_empty a c x w).mono ?_
    rintro e w' ⟨rfl, hk⟩
    exact ⟨rfl, hk⟩
  · obtain ⟨g, cap, rfl, -⟩ := hv.form hn
    have hcon := AnyG.slices_BinarySearch_int bsI g 0 L.length cap L x w (Nat.le_refl _) (by omega) (fun j hj => by
      rw [Nat.zero_add, in_cell hv hj]; simp [hj]) (by rw [List.take_length]; exact hs)
    rw [List.take_length] at hcon
    refine Calls.mono (show Calls Tryz.prog 104 _ w _ from hcon) ?_
    rintro e w' ⟨rfl, q, rfl⟩
    exact ⟨rfl, (Keep.refl _ _).drewN _⟩

theorem own_put {w : World} {B g cap n k q : Nat} {L M : List Int} (h : OwnL inE w B 3 (.slice (some ⟨g, 0, none⟩) n cap) L) (hM : M.length = L.length) (hk : k ≤ M.length) :
    OwnL inE (Sort.putRow (Value.int .i64) (Sort.ahead w q) g 0 M.toArray) B 3 (.slice (some ⟨g, 0, none⟩) k cap) (M.take k) ∧ Keep (fun z => z = g) w (Sort.putRow (Value.int .i64) (Sort.ahead w q) g 0 M.toArray) := by
  obtain ⟨cur, hn, hg, hc, hm, hl, ht, hB⟩ := h.block
  have hk1 : inE.k = 1 := rfl
  rw [hk1, Nat.mul_one] at hl
  refine ⟨OwnL.of_block (cur := (Sort.putCells (Value.int .i64) 0 M.toArray cur.toArray).toList) ?_ (by simp; omega) (by omega) hm (by simp [Sort.putCells, hl, hk1]) ?_ hB, rfl, rfl, rfl, by simp [Sort.putRow, Sort.mapBlock, Sort.ahead], fun z hz hs => ?_⟩
  · unfold Sort.putRow Sort.mapBlock Sort.ahead
    simp only
    rw [Array.getElem?_modify, if_pos rfl, hg]
    simp [Sort.onCells]
  · apply List.ext_getElem?
    intro t
    rw [List.getElem?_take, List.length_take, hk1, Nat.mul_one, Nat.min_eq_left hk]
    by_cases ht2 : t < k
    · rw [if_pos ht2, Array.getElem?_toList]
      have htc : t < cur.toArray.size := by simp [hl]; omega
      have htm : t < M.length := by omega
      have htk : t < (M.take k).length := by simp; omega
      simp only [Sort.putCells, Array.getElem?_mapIdx, Array.getElem?_eq_getElem htc, Option.map_some]
      have h1 := inE.cs_at (L := M.take k) (i := t) (j := 0) htk (by decide)
      rw [hk1, Nat.mul_one, Nat.add_zero] at h1
      rw [h1, if_pos (by simp; omega), Nat.sub_zero]
      simp [inE, htm]
    · rw [if_neg ht2, List.getElem?_eq_none (by rw [inE.cs_length, hk1]; simp; omega)]
  · unfold Sort.putRow Sort.mapBlock Sort.ahead
    simp only
    rw [Array.getElem?_modify, if_neg (fun e => hs e.symm)]

theorem del_any (B g cap i : Nat) (L : List Int) (w : World) (hv : OwnL inE w B 3 (.slice (some ⟨g, 0, none⟩) L.length cap) L) (hi : i < L.length) :
    Calls Tryz.prog 105 #[.slice (some ⟨g, 0, none⟩) L.length cap, .int .i64 i, .int .i64 ((i : Int) + 1)] w fun e w' => e = .returned (.slice (some ⟨g, 0, none⟩) (L.length - 1) cap) ∧ OwnL inE w' B 3 (.slice (some ⟨g, 0, none⟩) (L.length - 1) cap) (L.take i ++ L.drop (i + 1)) ∧ Keep (fun z => z = g) w w' := by
  obtain ⟨cur, hn, hg, hc, hm, hl, ht, hB⟩ := hv.block
  have hH : Sort.Holds (Value.int .i64) w g 0 L.toArray := fun j hj => by
    have hj' : j < L.length := by simpa using hj
    refine ⟨?_, hv.frozen _⟩
    rw [Nat.zero_add, in_cell hv hj']; simp [hj']
  have hcon := AnyG.slices_Delete_int dlI g 0 cap i (i + 1) L w hH hc (by unfold maxLen at hm; omega) (by omega) (by omega)
  refine Calls.mono (show Calls Tryz.prog 105 _ w _ from (by rw [Int.natCast_add] at hcon; exact hcon)) ?_
  rintro e w' ⟨rfl, q, rfl⟩
  have e1 : L.length - (i + 1 - i) = L.length - 1 := by omega
  have e2 : (L.take i ++ L.drop (i + 1) ++ List.replicate (i + 1 - i) (0 : Int)).length = L.length := by simp; omega
  have h2 := own_put (q := q) (k := L.length - 1) hv e2 (by omega)
  rw [e1]
  refine ⟨rfl, ?_, h2.2⟩
  have e3 : (L.take i ++ L.drop (i + 1) ++ List.replicate (i + 1 - i) (0 : Int)).take (L.length - 1) = L.take i ++ L.drop (i + 1) := by
    rw [List.take_append_of_le_length (by simp; omega), List.take_of_length_le (by simp; omega)]
  have h4 := h2.1
  rw [e3] at h4
  exact h4

set_option maxHeartbeats 1000000 in
theorem insert_endF (B : Nat) (v : Value) (L : List Int) (y : Int) (ad : Addr) (c : Nat) (w : World) (hB : B ≤ w.heap.size) (hv : OwnL inE w B 3 v L) (hl : L.length ≤ 2000) (hy : ∀ j u, (inE.c y)[j]? = some u → w.cell? (ad.add j) = some u) :
    Calls Tryz.prog 102 #[v, .int .i64 L.length, .slice (some ad) 1 c] w fun e w' => ∃ v', e = .returned v' ∧ OwnL inE w' B 3 v' (L ++ [y]) ∧ w.grownBy w' v.ownBlock ∧ ∀ x, v'.ownBlock = some x → v.ownBlock = some x ∨ w.heap.size ≤ x := by
  obtain ⟨vhi, hhi, -⟩ := sl_hi et60 hv (i := L.length) (Nat.le_refl _) ↑L.length rfl
  obtain ⟨a, c0, rfl, -⟩ := hv.slice
  go_enter Tryz.func102, Tryz.ntmps102
  go_wp2_with (at_builtin; refine wpl_appF et60 rfl (.tmp 23) (.tmp 24) rfl B _ L.length (inE.cs L) rfl hv ad 1 c (inE.c y) rfl rfl hy (inE.one y) (by unfold maxLen; omega) (by omega) hB ?_; intro v1 w1 hown1 hgrow1 hf1)
  go_ret
  refine ⟨_, rfl, ?_, hgrow1, hf1⟩
  unfold OwnL
  rw [List.length_append, inE.cs_append, inE.cs_one]
  exact hown1

theorem ins_any (B i vb : Nat) (v : Value) (L : List Int) (y : Int) (w : World) (hB : B ≤ w.heap.size) (hv : OwnL inE w B 3 v L) (hi : i ≤ L.length) (hl : L.length ≤ 2000) (hy : w.heap[vb]? = some (.cells (inE.c y).toArray 3 (0, 0))) (hne : v.ownBlock ≠ some vb) :
    Calls Tryz.prog 102 #[v, .int .i64 i, .slice (some ⟨vb, 0, none⟩) 1 1] w (InsO v L i y B w) := by
  by_cases he : i = L.length
  · subst he
    have h0 := insert_endF B v L y ⟨vb, 0, none⟩ 1 w hB hv hl (new_cells hy)
    refine h0.mono ?_
    rintro e w' ⟨v', rfl, h1, h2, h3⟩
    refine ⟨v', rfl, ?_, Keep.grown (Keep.refl _ _) h2 (fun z h _ => h), h3⟩
    unfold insAt
    rw [List.take_length, List.drop_length]; exact h1
  · obtain ⟨g, cap, rfl, -⟩ := hv.form (by intro e; subst e; simp at hi; exact he hi)
    by_cases hr : L.length + 1 ≤ cap
    · exact insert_place B g cap i vb L y w hv (by omega) hl hr hy (fun e => hne (by rw [e]; rfl))
    · exact insert_new B g cap i vb L y w hB hv (by omega) hl (by omega) hy

/- Part D: Buddy: the lists as sets; the object; place. -/
/-- The frames of the order k, rising. -/
def ls (S : Nat → Nat → Bool) (n k : Nat) : List Nat := (List.range n).filter (S k)
def li (S : Nat → Nat → Bool) (n k : Nat) : List Int := (ls S n k).map fun (a : Nat) => (a : Int)
def tl (S : Nat → Nat → Bool) (n k c : Nat) : List Nat := (List.range' (c + 1) (n - c - 1)).filter (S k)
theorem ls_split (S : Nat → Nat → Bool) (n k c : Nat) (hc : c < n) : ls S n k = ls S c k ++ ((if S k c then [c] else []) ++ tl S n k c) := by
  unfold ls tl
  have e : List.range n = List.range c ++ (c :: List.range' (c + 1) (n - c - 1)) := by
    rw [List.range_eq_range', List.range_eq_range', ← List.range'_succ, show n - c - 1 + 1 = n - c by omega]
    have := List.range'_append_1 (s := 0) (m := c) (n := n - c)
    rw [Nat.zero_add, show c + (n - c) = n by omega] at this
    exact this.symm
  rw [e, List.filter_append, List.filter_cons]
  split <;> rename_i h <;> simp [h]
theorem ls_mem (S : Nat → Nat → Bool) (n k a : Nat) : a ∈ ls S n k ↔ a < n ∧ S k a = true := by simp [ls]
theorem tl_gt {S : Nat → Nat → Bool} {n k c a : Nat} (h : a ∈ tl S n k c) : c < a := by
  unfold tl at h
  rw [List.mem_filter, List.mem_range'_1] at h
  omega
theorem li_sorted (S : Nat → Nat → Bool) (n k : Nat) : (li S n k).Pairwise (· < ·) := by
  unfold li ls
  rw [List.pairwise_map]
  exact (List.pairwise_lt_range.filter _).imp fun h => by omega
theorem li_le (S : Nat → Nat → Bool) (n k : Nat) : (li S n k).Pairwise (· ≤ ·) := (li_sorted S n k).imp fun h => by omega
theorem li_len (S : Nat → Nat → Bool) (n k : Nat) : (li S n k).length ≤ n := by
  unfold li ls
  rw [List.length_map]
  exact Nat.le_trans (List.length_filter_le _ _) (by simp)
theorem li_contains (S : Nat → Nat → Bool) (n k c : Nat) : (li S n k).contains (c : Int) = (decide (c < n) && S k c) := by
  rw [Bool.eq_iff_iff, List.contains_iff_mem]
  unfold li
  rw [List.mem_map, Bool.and_eq_true, decide_eq_true_eq, ← ls_mem S n k c]
  constructor
  · rintro ⟨a, ha, e⟩
    have : a = c := by omega
    subst this; exact ha
  · intro h; exact ⟨c, h, rfl⟩
theorem li_count (S : Nat → Nat → Bool) (n k c : Nat) (hc : c < n) : (li S n k).countP (· < (c : Int)) = (ls S c k).length := by
  unfold li
  rw [List.countP_map, ls_split S n k c hc, List.countP_append, List.countP_append]
  have h1 : List.countP ((fun x => decide (x < (c : Int))) ∘ fun (a : Nat) => (a : Int)) (ls S c k) = (ls S c k).length := by
    rw [List.countP_eq_length]
    intro a ha
    have := (ls_mem S c k a).mp ha
    simp; omega
  have h2 : List.countP ((fun x => decide (x < (c : Int))) ∘ fun (a : Nat) => (a : Int)) (if S k c then [c] else []) = 0 := by
    rw [List.countP_eq_zero]
    intro a ha
    split at ha
    · simp at ha; subst ha; simp
    · cases ha
  have h3 : List.countP ((fun x => decide (x < (c : Int))) ∘ fun (a : Nat) => (a : Int)) (tl S n k c) = 0 := by
    rw [List.countP_eq_zero]
    intro a ha
    have := tl_gt ha
    simp; omega
  rw [h1, h2, h3]; rfl
theorem li_put (S : Nat → Nat → Bool) (n k c : Nat) (hc : c < n) (hs : S k c = false) : li (putS S k c) n k = insAt (li S n k) (ls S c k).length (c : Int) := by
  have e1 : ls (putS S k c) c k = ls S c k := by
    unfold ls
    apply List.filter_congr
    intro a ha
    rw [List.mem_range] at ha
    simp [putS]; omega
  have e2 : tl (putS S k c) n k c = tl S n k c := by
    unfold tl
    apply List.filter_congr
    intro a ha
    rw [List.mem_range'_1] at ha
    simp [putS]; omega
  have e3 : putS S k c k c = true := by simp [putS]
  unfold li insAt
  rw [ls_split (putS S k c) n k c hc, ls_split S n k c hc, e1, e2, e3, hs]
  simp
theorem li_drop (S : Nat → Nat → Bool) (n k c : Nat) (hc : c < n) (hs : S k c = true) : li (dropS S k c) n k = (li S n k).take (ls S c k).length ++ (li S n k).drop ((ls S c k).length + 1) := by
  have e1 : ls (dropS S k c) c k = ls S c k := by
    unfold ls
    apply List.filter_congr
    intro a ha
    rw [List.mem_range] at ha
    have : a ≠ c := by omega
    simp [dropS, this]
  have e2 : tl (dropS S k c) n k c = tl S n k c := by
    unfold tl
    apply List.filter_congr
    intro a ha
    rw [List.mem_range'_1] at ha
    have : a ≠ c := by omega
    simp [dropS, this]
  have e3 : dropS S k c k c = false := by simp [dropS]
  unfold li
  rw [ls_split (dropS S k c) n k c hc, ls_split S n k c hc, e1, e2, e3, hs]
  simp
  rw [List.drop_append, List.drop_of_length_le (by simp)]
  simp
theorem li_other {S S' : Nat → Nat → Bool} {n k : Nat} (h : ∀ a, S k a = S' k a) : li S n k = li S' n k := by
  unfold li ls
  rw [show S k = S' k from funext h]
theorem put_other (S : Nat → Nat → Bool) {k j c : Nat} (h : j ≠ k) (a : Nat) : putS S k c j a = S j a := by simp [putS, h]
theorem drop_other (S : Nat → Nat → Bool) {k j c : Nat} (h : j ≠ k) (a : Nat) : dropS S k c j a = S j a := by simp [dropS, h]

/-- The object at p: n frames, the lists S, the count. -/
structure RepB (w : World) (B p n : Nat) (S : Nat → Nat → Bool) (fr : Int) (V : Nat → Value) : Prop where
  hp : w.heap[p]? = some (.cells #[.int .i64 (n : Int), V 0, V 1, V 2, V 3, V 4, V 5, V 6, V 7, V 8, .int .i64 fr] 118 (0, 0))
  hv : ∀ k, k ≤ 8 → OwnL inE w B 3 (V k) (li S n k)
  ap : ∀ j k, j ≤ 8 → k ≤ 8 → j ≠ k → ∀ x, (V j).ownBlock = some x → (V k).ownBlock ≠ some x
  hn : n ≤ 1024
  hf : -100000 ≤ fr ∧ fr ≤ 100000
theorem le8 {k : Nat} (h : k ≤ 8) : k = 0 ∨ k = 1 ∨ k = 2 ∨ k = 3 ∨ k = 4 ∨ k = 5 ∨ k = 6 ∨ k = 7 ∨ k = 8 := by omega
section
variable {w : World} {B p n : Nat} {S : Nat → Nat → Bool} {fr : Int} {V : Nat → Value} (h : RepB w B p n S fr V)
include h
theorem RepB.cV {k : Nat} (hk : k ≤ 8) : w.cell? ⟨p, 1 + k, none⟩ = some (V k) := by
  rw [cell_block h.hp]
  rcases le8 hk with rfl | rfl | rfl | rfl | rfl | rfl | rfl | rfl | rfl <;> rfl
theorem RepB.c0 : w.cell? ⟨p, 0, none⟩ = some (.int .i64 (n : Int)) := by rw [cell_block h.hp]; rfl
theorem RepB.c10 : w.cell? ⟨p, 10, none⟩ = some (.int .i64 fr) := by rw [cell_block h.hp]; rfl
theorem RepB.fz (i : Nat) : w.frozen? ⟨p, i, none⟩ = false := frozen_block h.hp
theorem RepB.keep {T : Nat → Prop} {w' : World} (k : Keep T w w') (hp : ¬ T p) (hv : ∀ j, j ≤ 8 → ∀ x, (V j).ownBlock = some x → ¬ T x) : RepB w' B p n S fr V :=
  ⟨(k.block p (block_lt h.hp) hp).trans h.hp, fun j hj => (h.hv j hj).keep k (hv j hj), h.ap, h.hn, h.hf⟩
theorem RepB.keep0 {w' : World} (k : Keep (fun _ => False) w w') : RepB w' B p n S fr V := h.keep k id (fun _ _ _ _ => id)
theorem RepB.np {j : Nat} (hj : j ≤ 8) : ∀ x, (V j).ownBlock = some x → x ≠ p := fun x hx => by
  obtain ⟨c, hc⟩ := own_typ (h.hv j hj) hx
  exact typ_ne hc h.hp (by decide)
end
/-- The lists' rows lie in G. -/
def BS (w : World) (B p n : Nat) (S : Nat → Nat → Bool) (fr : Int) (G : Nat → Prop) : Prop := ∃ V, RepB w B p n S fr V ∧ ∀ j, j ≤ 8 → ∀ x, (V j).ownBlock = some x → G x
theorem BS.keep0 {w w' : World} {B p n : Nat} {S : Nat → Nat → Bool} {fr : Int} {G : Nat → Prop} (h : BS w B p n S fr G) (k : Keep (fun _ => False) w w') : BS w' B p n S fr G := by
  obtain ⟨V, h1, h2⟩ := h
  exact ⟨V, h1.keep0 k, h2⟩
theorem BS.mono {w : World} {B p n : Nat} {S : Nat → Nat → Bool} {fr : Int} {G G' : Nat → Prop} (h : BS w B p n S fr G) (hG : ∀ x, G x → G' x) : BS w B p n S fr G' := by
  obtain ⟨V, h1, h2⟩ := h
  exact ⟨V, h1, fun j hj x hx => hG x (h2 j hj x hx)⟩
theorem BS.keep {w w' : World} {B p n : Nat} {S : Nat → Nat → Bool} {fr : Int} {G T : Nat → Prop} (h : BS w B p n S fr G) (k : Keep T w w') (hp : ¬ T p) (hG : ∀ x, G x → ¬ T x) : BS w' B p n S fr G := by
  obtain ⟨V, h1, h2⟩ := h
  exact ⟨V, h1.keep k hp (fun j hj x hx => hG x (h2 j hj x hx)), h2⟩

/-- One list gets another row. -/
theorem repB_set {w w2 : World} {B p n k : Nat} {S S' : Nat → Nat → Bool} {fr : Int} {V : Nat → Value} {v' : Value} (h : RepB w B p n S fr V) (hk : k ≤ 8) (K : Keep (fun z => (V k).ownBlock = some z) w w2)
    (ho : OwnL inE w2 B 3 v' (li S' n k)) (hS : ∀ j, j ≠ k → ∀ a, S' j a = S j a) (hf : ∀ x, v'.ownBlock = some x → (V k).ownBlock = some x ∨ w.heap.size ≤ x) :
    RepB (w2.setCell ⟨p, 1 + k, none⟩ v') B p n S' fr (fun j => if j = k then v' else V j) ∧ Keep (fun z => z = p ∨ (V k).ownBlock = some z) w (w2.setCell ⟨p, 1 + k, none⟩ v') := by
  have hp2 := (K.block p (block_lt h.hp) (fun e => h.np hk p e rfl)).trans h.hp
  have KP := (Keep.refl (fun z => z = p) w2).setCell (p := ⟨p, 1 + k, none⟩) (fun _ => rfl) v'
  have hnp : ∀ {z : Value} {X : List Int}, OwnL inE w2 B 3 z X → ∀ x, z.ownBlock = some x → x ≠ p := fun hz x hx => by
    obtain ⟨c, hc⟩ := own_typ hz hx
    exact typ_ne hc hp2 (by decide)
  refine ⟨⟨?_, fun j hj => ?_, fun i j hi hj hij x hx e => ?_, h.hn, h.hf⟩, (K.mono (fun _ _ h => .inr h)).on KP fun z _ e => .inl e⟩
  · rw [heap_setCell_eq hp2]
    rcases le8 hk with rfl | rfl | rfl | rfl | rfl | rfl | rfl | rfl | rfl <;> rfl
  · by_cases e : j = k
    · subst e
      rw [if_pos rfl]
      exact ho.keep KP (hnp ho)
    · rw [if_neg e, li_other (hS j e)]
      have h1 := (h.hv j hj).keep K (fun x hx e2 => h.ap j k hj hk e x hx e2)
      exact h1.keep KP (hnp h1)
  · have new : ∀ j, j ≤ 8 → j ≠ k → ∀ x, v'.ownBlock = some x → (V j).ownBlock ≠ some x := fun j hj hjk x hx e => by
      rcases hf x hx with h' | h'
      · exact h.ap j k hj hk hjk x e h'
      · have := ((h.hv j hj).lt x e).2; omega
    by_cases ei : i = k
    · subst ei
      rw [if_pos rfl] at hx
      rw [if_neg (fun e => hij e.symm)] at e
      exact new j hj (fun e => hij e.symm) x hx e
    · rw [if_neg ei] at hx
      by_cases ej : j = k
      · subst ej
        rw [if_pos rfl] at e
        exact new i hi ei x e hx
      · rw [if_neg ej] at e
        exact h.ap i j hi hj hij x hx e

set_option maxHeartbeats 1000000 in
theorem place_any {w : World} {B p n k : Nat} {S : Nat → Nat → Bool} {fr : Int} {V : Nat → Value} (f : Int) (h : RepB w B p n S fr V) (hk : k ≤ 8) :
    Calls Tryz.prog 96 #[.pointer (some ⟨p, 0, none⟩), .int .i64 f, .int .i64 (k : Int)] w fun e w' => e = .returned (.tuple #[.int .i64 ((li S n k).countP (· < f) : Nat), .bool ((li S n k).contains f)]) ∧ Keep (fun _ => False) w w' := by
  have c := h.cV hk
  have hlen := li_len S n k
  have hn := h.hn
  have HV := Lib.hid (h.hv k hk)
  have hkz : (0 : Int) ≤ (k : Int) := Int.natCast_nonneg k
  have hk9 : (k : Int) < 9 := by omega
  obtain ⟨cnt, hcnt⟩ : ∃ c, (li S n k).countP (· < f) = c := ⟨_, rfl⟩
  obtain ⟨fb, hfb⟩ : ∃ c, (li S n k).contains f = c := ⟨_, rfl⟩
  have HC := Lib.hid (bs_any B (V k) (li S n k) f w HV.out (li_le S n k) (by omega))
  rw [hcnt, hfb] at HC ⊢
  clear hcnt hfb hlen
  go_enter Tryz.func96, Tryz.ntmps96
  go_wp2_with (go_at_call 104; refine HC.out.mono ?_; rintro e w1 ⟨rfl, hk1⟩)
  go_ret2
  exact ⟨rfl, hk1⟩

end Go.Proofs.YtjffdimlbppgcaaGreat
