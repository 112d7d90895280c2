/- Buddy: carve. -/
import Derived.Test.YtnjcchgbkemekaaE
set_option linter.unusedVariables false
set_option linter.unusedSimpArgs false
namespace Go.Proofs.Ytnjcchgbkemekaa
open Go.RowKit Go.Own

theorem dn_half (k f : Nat) : (dn (k + 1) f + 2 ^ k ≤ f → dn k f = dn (k + 1) f + 2 ^ k) ∧ (f < dn (k + 1) f + 2 ^ k → dn k f = dn (k + 1) f) := by
  unfold dn
  rw [p2s, Nat.mul_comm 2 (2 ^ k), ← Nat.div_div_eq_div_mul]
  have h1 := Nat.div_add_mod f (2 ^ k)
  have h2 := Nat.mod_lt f (p2 k)
  generalize f % 2 ^ k = r at h1 h2
  generalize f / 2 ^ k = q at h1 ⊢
  generalize 2 ^ k = P at h1 h2 ⊢
  have h3 := Nat.div_add_mod q 2
  have h4 := Nat.mod_lt q (show 0 < 2 by decide)
  generalize q % 2 = s at h3 h4
  generalize q / 2 = m at h3 ⊢
  have e1 : m * (P * 2) = 2 * m * P := by rw [Nat.mul_comm P 2, ← Nat.mul_assoc, Nat.mul_comm m 2]
  have e2 : q * P = 2 * m * P + s * P := by rw [← h3, Nat.add_mul]
  rw [e1, e2]
  have e3 : P * q = 2 * m * P + s * P := by rw [Nat.mul_comm, e2]
  rw [e3] at h1
  clear e1 e2 e3 h3
  generalize 2 * m * P = X at *
  have hs : s = 0 ∨ s = 1 := by omega
  rcases hs with rfl | rfl
  · rw [Nat.zero_mul] at h1 ⊢; omega
  · rw [Nat.one_mul] at h1 ⊢; omega
def sibL (k f : Nat) : Nat := if dn (k + 1) f + 2 ^ k ≤ f then dn (k + 1) f else dn (k + 1) f + 2 ^ k
/-- A half is put back. -/
theorem rp_half {S : Nat → Nat → Bool} {F : Nat → Bool} {k f : Nat} (h : Rp S (subB F (k + 1) (dn (k + 1) f))) (hk : k < 8) (hb : blk F (k + 1) (dn (k + 1) f)) :
    Rp (putS S k (sibL k f)) (subB F k (dn k f)) ∧ S k (sibL k f) = false ∧ blk F k (dn k f) ∧ F (sibL k f) = true := by
  obtain ⟨g1, g2⟩ := dn_half k f
  have hm := dn_mod (k + 1) f
  have hle := dn_le (k + 1) f
  have hlt := dn_lt (k + 1) f
  have hm2 := dn_mod k f
  have hps := p2s k
  have hp := p2 k
  have hmk := mod_of_le (Nat.le_succ k) hm
  have hsm : sibL k f % 2 ^ k = 0 := by
    unfold sibL
    split
    · exact hmk
    · rw [Nat.add_mod_right]; exact hmk
  have hsd : dn (k + 1) (sibL k f) = dn (k + 1) f := by
    unfold sibL
    split
    · exact dn_self hm
    · have q1 := dn_le (k + 1) (dn (k + 1) f + 2 ^ k)
      have q2 := dn_lt (k + 1) (dn (k + 1) f + 2 ^ k)
      rcases dy (Nat.le_refl (k + 1)) (dn_mod (k + 1) (dn (k + 1) f + 2 ^ k)) hm with h' | h' <;> omega
  have hcase : (dn k f = dn (k + 1) f + 2 ^ k ∧ sibL k f = dn (k + 1) f) ∨ (dn k f = dn (k + 1) f ∧ sibL k f = dn (k + 1) f + 2 ^ k) := by
    unfold sibL
    split
    · rename_i h'; exact .inl ⟨g1 h', rfl⟩
    · rename_i h'; exact .inr ⟨g2 (by omega), rfl⟩
  generalize dn (k + 1) f = A at *
  generalize sibL k f = s at *
  generalize dn k f = d at *
  have hin : ∀ i, s ≤ i → i < s + 2 ^ k → subB F (k + 1) A i = false := fun i h1 h2 => by
    rw [← Bool.not_eq_true, subB_iff]
    exact fun h3 => h3.2 (by omega)
  have hr := rp_put h (by omega) hsm hin (fun _ => ⟨d, by rw [hsd]; omega, by rw [hsd]; omega, by omega, by
    rw [← Bool.not_eq_true, subB_iff]
    exact fun h3 => h3.2 (by omega)⟩)
  refine ⟨?_, ?_, fun i h1 h2 => hb i (by omega) (by omega), hb s (by omega) (by omega)⟩
  · have e : addB (subB F (k + 1) A) k s = subB F k d := by
      funext i
      rw [Bool.eq_iff_iff, addB_iff, subB_iff, subB_iff]
      constructor
      · rintro (⟨h1, h2⟩ | ⟨h1, h2⟩)
        · exact ⟨h1, by omega⟩
        · exact ⟨hb i (by omega) (by omega), by omega⟩
      · rintro ⟨h1, h2⟩
        by_cases h3 : s ≤ i ∧ i < s + 2 ^ k
        · exact .inr h3
        · exact .inl ⟨h1, by omega⟩
    rw [← e]; exact hr
  · rw [← Bool.not_eq_true, h k s (by omega)]
    intro hx
    have h1 := hx.2.2.1 s (Nat.le_refl _) (by omega)
    rw [hin s (Nat.le_refl _) (by omega)] at h1
    cases h1

theorem pw (k : Nat) (h : k ≤ 8) : 1 ≤ 2 ^ k ∧ 2 ^ k ≤ 256 :=
  ⟨Nat.pow_pos (by decide), by have := Nat.pow_le_pow_right (show 0 < 2 by decide) h; omega⟩
theorem pw_w (k : Nat) (h : k ≤ 8) : wrap64 ((2 : Int) ^ k) = ((2 ^ k : Nat) : Int) ∧ IntKind.i64.wrap ((2 : Int) ^ k) = ((2 ^ k : Nat) : Int) := by
  have h1 := pw k h
  have e : ((2 ^ k : Nat) : Int) = (2 : Int) ^ k := by simp
  rw [← e]
  exact ⟨IntWalk.wrap64_in _ (by omega), IntWalk.i64_in _ (by omega)⟩

/-- The boxes of carve: the frame, where we are, the object. -/
structure Bx (w : World) (n1 n2 n3 p : Nat) (f a : Nat) : Prop where
  b1 : w.heap[n1]? = some (.cells #[.int .i64 (f : Int)] 3 (0, 0))
  b2 : w.heap[n2]? = some (.cells #[.int .i64 (a : Int)] 3 (0, 0))
  b3 : w.heap[n3]? = some (.cells #[.pointer (some ⟨p, 0, none⟩)] 67 (0, 0))
theorem Bx.keep {w w' : World} {n1 n2 n3 p f a : Nat} {T : Nat → Prop} (h : Bx w n1 n2 n3 p f a) (k : Keep T w w') (h1 : ¬ T n1) (h2 : ¬ T n2) (h3 : ¬ T n3) : Bx w' n1 n2 n3 p f a :=
  ⟨(k.block _ (block_lt h.b1) h1).trans h.b1, (k.block _ (block_lt h.b2) h2).trans h.b2, (k.block _ (block_lt h.b3) h3).trans h.b3⟩
theorem cell1 {w : World} {b e : Nat} {x : Value} {z : Nat × Nat} (h : w.heap[b]? = some (.cells #[x] e z)) : w.cell? ⟨b, 0, none⟩ = some x := by simp [cell_block h]

theorem half_close {w w5 w6 : World} {B p n n1 n2 n3 f a a' : Nat} {S' : Nat → Nat → Bool} {fr : Int} {G : Nat → Prop} (h5 : BS w5 B p n S' fr (fun x => G x ∨ w.heap.size ≤ x)) (K5 : Keep (fun z => z = p ∨ G z) w w5) (hx : Bx w n1 n2 n3 p f a) (hx5 : Bx w5 n1 n2 n3 p f a) (hn2 : ¬ (n2 = p ∨ G n2)) (h12 : n1 ≠ n2) (h23 : n3 ≠ n2)
    (K6 : Keep (fun z => z = n2) w5 w6) (h6 : w6.heap[n2]? = some (.cells #[.int .i64 (a' : Int)] 3 (0, 0))) :
    BS w6 B p n S' fr (fun x => G x ∨ w.heap.size ≤ x) ∧ Bx w6 n1 n2 n3 p f a' ∧ Keep (fun z => z = p ∨ G z ∨ z = n2) w w6 := by
  have hl := block_lt hx.b2
  refine ⟨h5.keep K6 (fun e => hn2 (.inl e.symm)) (fun x hg e => ?_), ⟨(K6.block _ (block_lt hx5.b1) h12).trans hx5.b1, h6, (K6.block _ (block_lt hx5.b3) h23).trans hx5.b3⟩, (K5.mono fun z _ h => h.imp id .inl).on K6 fun z _ e => .inr (.inr e)⟩
  subst e
  rcases hg with hg | hg
  · exact hn2 (.inr hg)
  · omega

set_option maxRecDepth 100000 in
set_option maxHeartbeats 2000000 in
theorem half_any {w : World} {B p n k f a n1 n2 n3 : Nat} {S : Nat → Nat → Bool} {fr : Int} {G : Nat → Prop} (hB : B ≤ w.heap.size) (h : BS w B p n S fr G) (hk : k ≤ 8) (hx : Bx w n1 n2 n3 p f a) (hn1 : ¬ (n1 = p ∨ G n1)) (hn2 : ¬ (n2 = p ∨ G n2)) (hn3 : ¬ (n3 = p ∨ G n3)) (h12 : n1 ≠ n2) (h23 : n3 ≠ n2)
    (s a' : Nat) (hs : s < n) (hS : S k s = false) (hf : f ≤ 1024) (ha : a ≤ 1024) (hcase : (a + 2 ^ k ≤ f ∧ s = a ∧ a' = a + 2 ^ k) ∨ (f < a + 2 ^ k ∧ s = a + 2 ^ k ∧ a' = a)) :
    Calls Try.prog 57 #[.int .i64 (k : Int), .pointer (some ⟨n1, 0, none⟩), .pointer (some ⟨n2, 0, none⟩), .pointer (some ⟨n3, 0, none⟩)] w fun e w' => e = .returned (.tuple #[]) ∧ BS w' B p n (putS S k s) fr (fun x => G x ∨ w.heap.size ≤ x) ∧ Bx w' n1 n2 n3 p f a' ∧ Keep (fun z => z = p ∨ G z ∨ z = n2) w w' := by
  have HB := Lib.hid h
  have HX := Lib.hid hx
  have c1 := cell1 hx.b1
  have c2 := cell1 hx.b2
  have c3 := cell1 hx.b3
  have hp1 := pw k hk
  obtain ⟨e1, e2⟩ := pw_w k hk
  obtain ⟨P, hP⟩ : ∃ P, 2 ^ k = P := ⟨_, rfl⟩
  rw [hP] at hp1 e1 e2 hcase
  clear hP
  have a1 : IntKind.i64.wrap ((a : Int) + (P : Int)) = ((a + P : Nat) : Int) := by rw [← Int.natCast_add]; exact IntWalk.i64_in _ (by omega)
  have HN := Lib.hid (And.intro hn1 (And.intro hn2 hn3))
  have HPN : Hid (n1 ≠ n2 ∧ n3 ≠ n2) := ⟨h12, h23⟩
  have hput : Hid (∀ W, Keep (fun _ => False) w W → Calls Try.prog 56 #[.pointer (some ⟨p, 0, none⟩), .int .i64 (s : Int), .int .i64 (k : Int)] W (PutC W B p n (putS S k s) fr G)) :=
    fun W K => put_any (Nat.le_trans hB K.size) (HB.out.keep0 K) hk hs hS
  have hkz : (0 : Int) ≤ (k : Int) := Int.natCast_nonneg k
  clear h hx hn1 hn2 hn3 h12 h23 hS
  rcases hcase with ⟨g1, rfl, rfl⟩ | ⟨g1, rfl, rfl⟩
  · obtain ⟨A, hA⟩ : ∃ A, s + P = A := ⟨_, rfl⟩
    rw [hA] at g1 a1 ⊢
    clear hA
    have t1 : decide ((A : Int) ≤ (f : Int)) = true := decide_eq_true (by omega)
    go_enter Try.func57, Try.ntmps57
    go_wp2
    go_quiet (fail)
    go_wp2_with fail
    refine (hput.out _ (by (repeat (first | exact Keep.refl _ _ | exact Keep.refl _ _ | refine Keep.drew ?_ | refine Keep.drewN ?_ _ | refine Keep.alloc ?_ _ | refine Keep.setNew ?_ (by omega) _)); done)).mono ?_
    rintro e w5 ⟨rfl, hb5, hk5⟩
    have HK5 : Hid (Keep (fun z => z = p ∨ G z) w w5) := Keep.trans (by (repeat (first | exact Keep.refl _ _ | exact Keep.refl _ _ | refine Keep.drew ?_ | refine Keep.drewN ?_ _ | refine Keep.alloc ?_ _ | refine Keep.setNew ?_ (by omega) _)); done) hk5
    have HX5 := Lib.hid (HX.out.keep HK5.out HN.out.1 HN.out.2.1 HN.out.2.2)
    have HB5 := Lib.hid hb5
    have d2 := cell1 HX5.out.b2
    have fz2 : w5.frozen? ⟨n2, 0, none⟩ = false := frozen_block HX5.out.b2
    clear hb5 hk5 c1 c2 c3
    go_wp2
    go_region
    all_goals
      go_wp2
      go_end0
      have KP := ((Keep.refl (fun z => z = n2) w5).drew).setCell (p := ⟨n2, 0, none⟩) (fun _ => rfl) (.int .i64 (A : Int))
      exact ⟨rfl, half_close HB5.out HK5.out HX.out HX5.out HN.out.2.1 HPN.out.1 HPN.out.2 KP (by first | (rw [heap_setCell_eq (w := World.drew _) HX5.out.b2]; rfl) | exact (heap_setCell_eq (i := 0) (u := .int .i64 (A : Int)) HX5.out.b2).trans rfl)⟩
  · obtain ⟨A, hA⟩ : ∃ A, a' + P = A := ⟨_, rfl⟩
    rw [hA] at g1 a1 hput hs ⊢
    clear hA
    have t1 : decide ((A : Int) ≤ (f : Int)) = false := decide_eq_false (by omega)
    go_enter Try.func57, Try.ntmps57
    go_wp2
    go_quiet (fail)
    go_wp2_with fail
    generalize hwq : World.drewN _ _ = wq
    have HKq : Hid (Keep (fun _ => False) w wq) := by rw [← hwq]; exact (by (repeat (first | exact Keep.refl _ _ | exact Keep.refl _ _ | refine Keep.drew ?_ | refine Keep.drewN ?_ _ | refine Keep.alloc ?_ _ | refine Keep.setNew ?_ (by omega) _)); done)
    have hsz : wq.heap.size = w.heap.size := by rw [← hwq]; rfl
    have HSZ := Lib.hid hsz
    clear hwq c1 c2 c3 hsz
    have HXq := Lib.hid (HX.out.keep HKq.out id id id)
    have c2 := cell1 HXq.out.b2
    have c3 := cell1 HXq.out.b3
    go_region_held3 (fun w' => w'.cell? ⟨n2, 0, none⟩ = some (.int .i64 (a' : Int)) ∧ w'.cell? ⟨n3, 0, none⟩ = some (.pointer (some ⟨p, 0, none⟩)))
      (first | (with_reducible exact And.intro c2 c3) | (with_reducible exact And.intro d2 d3) | exact And.intro c2 c3)
      (first | (go_at_call 56; refine (hput.out _ (HKq.out.trans (by (repeat (first | exact Keep.refl _ _ | exact Keep.refl _ _ | refine Keep.drew ?_ | refine Keep.drewN ?_ _ | refine Keep.alloc ?_ _ | refine Keep.setNew ?_ (by omega) _)); done))).mono ?_; rintro e w5 ⟨rfl, hb5, hk5⟩; have HK5 : Hid (Keep (fun z => z = p ∨ G z) w w5) := Keep.trans (HKq.out.mono (fun _ _ h => h.elim)) (Keep.trans (by (repeat (first | exact Keep.refl _ _ | exact Keep.refl _ _ | refine Keep.drew ?_ | refine Keep.drewN ?_ _ | refine Keep.alloc ?_ _ | refine Keep.setNew ?_ (by omega) _)); done) hk5); have HX5 := Lib.hid (HX.out.keep HK5.out HN.out.1 HN.out.2.1 HN.out.2.2); have d2 := cell1 HX5.out.b2; have d3 := cell1 HX5.out.b3; have HB5 := Lib.hid hb5; clear hb5 hk5) | fail)
    go_wp2
    go_end0
    refine ⟨rfl, half_close (w5 := w5) (HB5.out.mono (fun x h => h.imp id (fun h => ?_))) HK5.out HX.out HX5.out HN.out.2.1 HPN.out.1 HPN.out.2 (Keep.refl _ _) HX5.out.b2⟩
    have := HSZ.out
    simp at h
    omega

end Go.Proofs.Ytnjcchgbkemekaa
