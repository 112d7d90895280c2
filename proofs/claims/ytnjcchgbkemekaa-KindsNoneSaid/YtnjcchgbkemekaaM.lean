/- Buddy: New. -/
import Derived.Test.YtnjcchgbkemekaaL
set_option linter.unusedVariables false
set_option linter.unusedSimpArgs false
namespace Go.Proofs.Ytnjcchgbkemekaa
open Go.RowKit Go.Own

def upTo (at' : Nat) : Nat → Bool := fun i => decide (i < at')
def NInv (at' n : Nat) : Prop := ∀ j, 1 ≤ j → j ≤ 8 → at' % 2 ^ j = 0 ∨ n - at' < 2 ^ (j - 1)
theorem new_step {S : Nat → Nat → Bool} {a n k : Nat} (h : Rp S (upTo a)) (hi : NInv a n) (hk : k ≤ 8) (ha : a % 2 ^ k = 0) (hf : 2 ^ k ≤ n - a) (hg : ∀ j, k < j → j ≤ 8 → ¬ (a % 2 ^ j = 0 ∧ 2 ^ j ≤ n - a)) :
    Rp (putS S k a) (upTo (a + 2 ^ k)) ∧ S k a = false ∧ NInv (a + 2 ^ k) n := by
  have hp := p2 k
  have hup : k < 8 → a % 2 ^ (k + 1) = 0 ∧ n - a < 2 ^ (k + 1) := fun hk8 => by
    have h1 := hg (k + 1) (by omega) (by omega)
    rcases hi (k + 1) (by omega) (by omega) with h2 | h2
    · exact ⟨h2, by omega⟩
    · simp only [Nat.add_sub_cancel] at h2
      omega
  have hin : ∀ i, a ≤ i → i < a + 2 ^ k → upTo a i = false := fun i h1 h2 => by unfold upTo; rw [decide_eq_false_iff_not]; omega
  have hr := rp_put h hk ha hin (fun hk8 => by
    have h1 := (hup hk8).1
    have hps := p2s k
    refine ⟨a + 2 ^ k, by rw [dn_self h1]; omega, by rw [dn_self h1]; omega, by omega, by unfold upTo; rw [decide_eq_false_iff_not]; omega⟩)
  refine ⟨?_, ?_, fun j h1 h2 => ?_⟩
  · have e : addB (upTo a) k a = upTo (a + 2 ^ k) := by
      funext i
      rw [Bool.eq_iff_iff, addB_iff]
      unfold upTo
      rw [decide_eq_true_eq, decide_eq_true_eq]
      omega
    rw [← e]; exact hr
  · rw [← Bool.not_eq_true, h k a hk]
    intro hm
    have := hm.2.2.1 a (Nat.le_refl _) (by omega)
    rw [hin a (Nat.le_refl _) (by omega)] at this
    cases this
  · by_cases hjk : j ≤ k
    · left
      have e := mod_of_le hjk ha
      have e2 : 2 ^ k % 2 ^ j = 0 := Nat.mod_eq_zero_of_dvd (Nat.pow_dvd_pow 2 hjk)
      rw [Nat.add_mod, e, e2]; rfl
    · right
      have h3 := (hup (by omega)).2
      have hps := p2s k
      have h4 := Nat.pow_le_pow_right (show 0 < 2 by decide) (show k ≤ j - 1 by omega)
      omega

theorem li_empty (n k : Nat) : li (fun _ _ => false) n k = [] := by
  unfold li ls; simp

set_option maxHeartbeats 400000 in
theorem new_bad (n : Int) (h : n < 8 ∨ 1024 < n) (w : World) : Calls Try.prog 42 #[.int .i64 n] w fun e w' => e = .returned (.tuple #[.pointer none, .int .i64 2]) ∧ Keep (fun _ => False) w w' := by
  by_cases h0 : n < 8
  · clear h
    go_enter Try.func42, Try.ntmps42
    go_wp2
    go_ret2
    exact ⟨rfl, (by (repeat (first | exact Keep.refl _ _ | exact Keep.refl _ _ | refine Keep.drew ?_ | refine Keep.drewN ?_ _ | refine Keep.alloc ?_ _ | refine Keep.setNew ?_ (by omega) _)); done)⟩
  · have h1 : 1024 < n := by omega
    clear h
    go_enter Try.func42, Try.ntmps42
    go_wp2
    go_ret2
    exact ⟨rfl, (by (repeat (first | exact Keep.refl _ _ | exact Keep.refl _ _ | refine Keep.drew ?_ | refine Keep.drewN ?_ _ | refine Keep.alloc ?_ _ | refine Keep.setNew ?_ (by omega) _)); done)⟩
theorem nsub (n a : Nat) (h : a ≤ n) (hn : n ≤ 1024) : IntKind.i64.wrap ((n : Int) - (a : Int)) = ((n - a : Nat) : Int) := by rw [show (n : Int) - (a : Int) = ((n - a : Nat) : Int) by omega]; exact IntWalk.i64_in _ (by omega)

set_option maxRecDepth 100000 in
set_option maxHeartbeats 8000000 in
theorem new_any (n B : Nat) (h0 : 8 ≤ n) (h1 : n ≤ 1024) (w : World) (hB : B ≤ w.heap.size) : Calls Try.prog 42 #[.int .i64 (n : Int)] w fun e w' => ∃ p, e = .returned (.tuple #[.pointer (some ⟨p, 0, none⟩), .int .i64 0]) ∧ BF w' B p n (upTo n) (fun x => w.heap.size ≤ x) ∧ w.heap.size ≤ p ∧ Keep (fun _ => False) w w' := by
  have n0 : (8 : Int) ≤ (n : Int) := by omega
  have n1 : (n : Int) ≤ 1024 := by omega
  have HBS : Hid (BS (w.alloc (.cells #[.int .i64 (n : Int), .slice none 0 0, .slice none 0 0, .slice none 0 0, .slice none 0 0, .slice none 0 0, .slice none 0 0, .slice none 0 0, .slice none 0 0, .slice none 0 0, .int .i64 0] 83)) B w.heap.size n (fun _ _ => false) 0 (fun x => w.heap.size ≤ x)) :=
    ⟨fun _ => .slice none 0 0, ⟨heap_alloc_new w _, fun k hk => by rw [li_empty]; exact OwnL.nil _ _ _, fun j k _ _ _ x hx => (by cases hx), h1, by omega⟩, fun j hj x hx => by cases hx⟩
  have HKA : Hid (Keep (fun _ => False) w (w.alloc (.cells #[.int .i64 (n : Int), .slice none 0 0, .slice none 0 0, .slice none 0 0, .slice none 0 0, .slice none 0 0, .slice none 0 0, .slice none 0 0, .slice none 0 0, .slice none 0 0, .int .i64 0] 83))) := (Keep.refl _ _).alloc _
  have HR0 : Hid (Rp (fun _ _ => false) (upTo 0)) := fun k a hk => ⟨fun h => (by cases h), fun hm => by have := hm.2.2.1 a (Nat.le_refl _) (by have := p2 k; omega); simp [upTo] at this⟩
  have HI0 : Hid (NInv 0 n) := fun j _ _ => .inl (Nat.zero_mod _)
  go_enter Try.func42, Try.ntmps42
  go_wp2
  generalize hw1 : w.alloc (.cells #[.int .i64 (n : Int), .slice none 0 0, .slice none 0 0, .slice none 0 0, .slice none 0 0, .slice none 0 0, .slice none 0 0, .slice none 0 0, .slice none 0 0, .slice none 0 0, .int .i64 0] 83) = w1 at HBS HKA ⊢
  obtain ⟨p, hp⟩ : ∃ p, w.heap.size = p := ⟨_, rfl⟩
  have HP := Lib.hid hp
  rw [hp] at HBS ⊢
  clear hw1 hp
  go_loopw [5] (fun i wr => ∃ a : Nat, a ≤ n ∧ i = .int .i64 a ∧ NInv a n ∧ ∃ S, Rp S (upTo a) ∧ BS wr B p n S 0 (fun x => p ≤ x) ∧ Keep (fun z => p ≤ z) w wr) (fun i _ => n - (intOf i).toNat)
  case atStart => exact ⟨0, by omega, rfl, HI0.out, _, HR0.out, HBS.out, HKA.out.mono (fun _ _ h => h.elim)⟩
  case round =>
    obtain ⟨a, ha, rfl, hi, S, hR, hb, hkeep⟩ := hrel
    have HI := Lib.hid hi
    have HR := Lib.hid hR
    have HB := Lib.hid hb
    have HK := Lib.hid hkeep
    clear hi hR hb hkeep
    by_cases hlt : a < n
    · have hsb := nsub n a ha h1
      go_wp2
      go_loopw [6] (fun i w5 => ∃ k : Nat, k ≤ 8 ∧ i = .int .i64 k ∧ (∀ j, k < j → j ≤ 8 → ¬ (a % 2 ^ j = 0 ∧ 2 ^ j ≤ n - a)) ∧ Keep (fun _ => False) wr w5) (fun i _ => (intOf i).toNat)
      case atStart => exact ⟨8, by omega, rfl, fun j h1 h2 => by omega, Keep.refl _ _⟩
      case round =>
        obtain ⟨k, hk, rfl, hno, hk5⟩ := hrel
        have HNO := Lib.hid hno
        have HK5 := Lib.hid hk5
        clear hno hk5
        obtain ⟨P, hP, e1, e2, hpb, s1, s2, -, hb⟩ := bits_k k a hk (by omega)
        have kz : (0 : Int) ≤ (k : Int) := Int.natCast_nonneg k
        by_cases hok : a % P = 0
        · rw [hok] at hb
          by_cases hfit : P ≤ n - a
          · have t2 : decide (((n - a : Nat) : Int) < (P : Int)) = false := decide_eq_false (by omega)
            have t2' : decide (n - a < P) = false := decide_eq_false (by omega)
            have hst := new_step HR.out HI.out hk (by rw [← hP]; exact hok) (by rw [← hP]; exact hfit) HNO.out
            have HST := Lib.hid hst
            have HPP := Lib.hid hP
            have a1 := wsum a P (by omega) (by omega)
            have haP : a + P ≤ n := by omega
            clear hst hok hP
            go_wp2_with (go_at_call 56; go_loud (refine (put_any (Nat.le_trans hB (Nat.le_trans HK.out.size HK5.out.size)) (HB.out.keep0 HK5.out) hk hlt HST.out.2.1).mono ?_); go_loud (rintro e w6 ⟨rfl, hb6, hk6⟩; have HB6 : Hid (BS w6 B p n (putS S k a) 0 (fun x => p ≤ x)) := (hb6.mono fun x hx => (by rcases hx with hx | hx; (exact hx); have := HK.out.size; have := HK5.out.size; have := HP.out; omega)); have HK6 : Hid (Keep (fun z => p ≤ z) w w6) := (HK.out.on HK5.out (fun _ _ h => h.elim)).on hk6 (fun z _ h => (by rcases h with h | h; (exact Nat.le_of_eq h.symm); exact h)); clear hb6 hk6))
            go_roundw
            case rel => exact ⟨a + P, haP, by go_num, by rw [HPP.out]; exact HST.out.2.2, putS S k a, by rw [HPP.out]; exact HST.out.1, HB6.out, HK6.out⟩
            case measure => simp [intOf]; omega
          · have t2 : decide (((n - a : Nat) : Int) < (P : Int)) = true := decide_eq_true (by omega)
            have t2' : decide (n - a < P) = true := decide_eq_true (by omega)
            rcases k with _ | k
            · simp at hP; omega
            · have HN2 : Hid (∀ j, k < j → j ≤ 8 → ¬ (a % 2 ^ j = 0 ∧ 2 ^ j ≤ n - a)) := fun j h1 h2 => by
                by_cases e : j = k + 1
                · subst e; rw [← hP]; exact fun h => hfit h.2
                · exact HNO.out j (by omega) h2
              clear hok hP
              go_wp2
              go_roundw
              case rel => exact ⟨k, by omega, by go_num, HN2.out, HK5.out⟩
              case measure => (simp [intOf]; try omega)
        · obtain ⟨r, hr⟩ : ∃ r, a % P = r := ⟨_, rfl⟩
          rw [hr] at hb hok
          have t1 : ((r : Int) != 0) = true := by rw [bne_iff_ne]; omega
          rcases k with _ | k
          · simp at hP; rw [hP, Nat.mod_one] at hr; omega
          · have HN2 : Hid (∀ j, k < j → j ≤ 8 → ¬ (a % 2 ^ j = 0 ∧ 2 ^ j ≤ n - a)) := fun j h1 h2 => by
              by_cases e : j = k + 1
              · subst e; rw [← hP, hr]; exact fun h => hok h.1
              · exact HNO.out j (by omega) h2
            clear hok hP hr
            go_wp2
            go_roundw
            case rel => exact ⟨k, by omega, by go_num, HN2.out, HK5.out⟩
            case measure => (simp [intOf]; try omega)
    · obtain rfl : a = n := by omega
      have hcn : cnt (upTo a) a = a := by
        unfold cnt
        have : (List.range a).countP (upTo a) = (List.range a).length := by
          rw [List.countP_eq_length]
          intro i hi
          rw [List.mem_range] at hi
          simp [upTo, hi]
        rw [this, List.length_range]
      have HCN := Lib.hid hcn
      have fz : wr.frozen? ⟨p, 10, none⟩ = false := by obtain ⟨V, h4, _⟩ := HB.out; exact h4.fz 10
      have c10 : wr.cell? ⟨p, 10, none⟩ = some (.int .i64 0) := by obtain ⟨V, h4, _⟩ := HB.out; exact h4.c10
      clear hcn
      go_wp2
      go_ret2
      have hq := bs_free (fr' := ((a : Nat) : Int)) HB.out (by omega) (Keep.refl (fun _ => False) wr)
      refine ⟨p, rfl, ⟨S, ?_, HR.out, fun i hi => by simpa [upTo] using hi⟩, by rw [HP.out]; exact Nat.le_refl _, ?_⟩
      · rw [HCN.out, HP.out]; exact hq.1
      · exact ((HK.out.mono fun _ _ h => h).on hq.2 fun z _ h => by subst h; exact Nat.le_refl _).fresh (fun _ h => h) (by rw [HP.out]; exact Nat.le_refl _)

end Go.Proofs.Ytnjcchgbkemekaa
