/- FramesBack, FramesNext: the walks. -/
import Derived.Test.YtajjelfeldofgaaF
set_option linter.unusedVariables false
set_option linter.unusedSimpArgs false
namespace Go.Proofs.Ytajjelfeldofgaa
open Go.RowKit Go.Own

/-- The first k numbers are 0. -/
def zeroTo (L : List Int) (k : Nat) : List Int := List.replicate k 0 ++ L.drop k
theorem zeroTo_length {L : List Int} {k : Nat} (h : k ≤ L.length) : (zeroTo L k).length = L.length := by simp [zeroTo]; omega
theorem zeroTo_at {L : List Int} {k : Nat} (h : k < L.length) : gi (zeroTo L k) k = gi L k := by
  simp [gi, zeroTo, List.getElem?_append_right]
theorem zeroTo_succ {L : List Int} {k : Nat} (h : k < L.length) : (zeroTo L k).set k 0 = zeroTo L (k + 1) := by
  refine ext_gi (by rw [List.length_set, zeroTo_length (by omega), zeroTo_length (by omega)]) fun i hi => ?_
  rw [List.length_set, zeroTo_length (by omega)] at hi
  by_cases e : k = i
  · subst e; rw [gi_set_eq (by rw [zeroTo_length (by omega)]; exact h)]; simp [gi, zeroTo, List.getElem?_append_left]
  · rw [gi_set_ne e]
    simp only [gi, zeroTo, List.getD_eq_getElem?_getD, List.getElem?_append, List.length_replicate, List.getElem?_drop, List.getElem?_replicate]
    by_cases c : i < k
    · simp [c, show i < k + 1 by omega]
    · rw [if_neg c, if_neg (by omega), show k + 1 + (i - (k + 1)) = i by omega, show k + (i - k) = i by omega]
theorem zeroTo_same {L : List Int} {k : Nat} (h : k < L.length) (h0 : gi L k = 0) : zeroTo L k = zeroTo L (k + 1) := by
  rw [← zeroTo_succ h]
  refine ext_gi (by rw [List.length_set]) fun i hi => ?_
  by_cases e : k = i
  · subst e; rw [gi_set_eq hi, zeroTo_at h, h0]
  · rw [gi_set_ne e]
theorem back_step {L : List Int} {k : Nat} (hs : ∀ x, x ∈ L → 0 ≤ x ∧ x < 6) (h : k < L.length) (h0 : gi L k ≠ 0) :
    turnE (zeroTo L k) k 1 (gi L k) 0 = 0 ∧ turnL (zeroTo L k) k 1 (gi L k) 0 = zeroTo L (k + 1) := by
  have hx : 0 ≤ gi L k ∧ gi L k < 6 := by rw [gi_eq h]; exact hs _ (List.getElem_mem h)
  have e1 : turnE (zeroTo L k) k 1 (gi L k) 0 = 0 := by
    unfold turnE
    rw [if_neg, if_neg, if_neg, if_pos]
    · intro j hj
      have : j = 0 := by simp at hj; omega
      subst this
      simp [zeroTo_at h]
    · simp [mayB, h0]
    · rw [zeroTo_length (by omega)]; omega
    · rw [stateB_iff_f, stateB_iff_f]; omega
  refine ⟨e1, ?_⟩
  unfold turnL; rw [if_pos e1]
  simp [fillN, zeroTo_succ h]

theorem gi_range {L : List Int} {k : Nat} (hs : ∀ x, x ∈ L → 0 ≤ x ∧ x < 6) (h : k < L.length) : 0 ≤ gi L k ∧ gi L k < 6 := by
  rw [gi_eq h]; exact hs _ (List.getElem_mem h)

theorem RepR.c0 {w : World} {B p : Nat} {v : Value} {L : List Int} (h : RepR w B p v L) : w.cell? ⟨p, 0, none⟩ = some v := by rw [cell_block h.hp]; rfl

set_option maxHeartbeats 1000000 in
theorem back_walk (n : Int) (la : Option Addr) (l c : Nat) (w : World) (hr : RowsAt w la l [.int .i64, .int .i64, .int .i64, .int .i64]) :
    Calls Try.prog 4 #[.int .i64 n, .slice la l c] w fun e w' => e = .returned (.bool true) ∧ Below w.heap.size w w' := by
  by_cases hn : n < 8 ∨ 1024 < n
  · go_enter Try.func4, Try.ntmps4
    go_wp2_with (first | (go_at_call 9; refine (made_no _ _ _ _ _ hn).mono ?_; rintro e w1 ⟨rfl, rfl⟩) | (go_at_call 10; refine (awake_any _).mono ?_; rintro e w2 ⟨rfl, hk⟩))
    go_ret
    exact ⟨rfl, keep_below (Keep.trans (by assumption) hk)⟩
  · obtain ⟨n, rfl⟩ := Int.eq_ofNat_of_zero_le (show 0 ≤ n by omega)
    obtain ⟨A, rfl, hA⟩ := acts_of_rows hr
    go_enter Try.func4, Try.ntmps4
    go_wp2_with (first | (go_at_call 9; refine (made_yes n _ _ _ _ (by omega) (by omega) hA).mono ?_; rintro e w1 ⟨p, q, p', v, L, rfl, hB, hL, hk1⟩; have HB := Lib.hid hB; have HL := Lib.hid hL; have HK := Lib.hid hk1; clear hB hL hk1) | (go_at_call 10; refine (awake_any _).mono ?_; rintro e w2 ⟨rfl, hk⟩))
    have HB2 := Lib.hid (HB.out.keep hk)
    have HK2 := Lib.hid (HK.out.trans hk)
    clear hk
    have hlen := HB2.out.f.hi
    go_loopw [8] (fun i wr => ∃ k : Nat, k ≤ L.length ∧ i = .int .i64 k ∧ RepF wr p q (zeroTo L k) ∧ RepR wr w.heap.size p' v L ∧ Keep (fun _ => False) w wr) (fun i _ => L.length - (intOf i).toNat)
    case atStart => exact ⟨0, by omega, rfl, HB2.out.f, HB2.out.r, HK2.out⟩
    case round =>
      obtain ⟨k, hk, rfl, hF, hR, hkeep⟩ := hrel
      obtain ⟨g, cap, e, hBg, hgp, hcap, hcells⟩ := hR.form
      subst e
      have hc0 := hR.c0
      have HF := Lib.hid hF
      have HR := Lib.hid hR
      have HC := Lib.hid hcells
      have HKW := Lib.hid hkeep
      clear hF hR hcells hkeep
      by_cases hlt : k < L.length
      · have hcell := HC.out k hlt
        have hg := gi_range HB2.out.f.st hlt
        by_cases h0 : gi L k = 0
        · have h0' : (gi L k != 0) = false := by simp [h0]
          have H0 := Lib.hid h0
          clear h0
          go_wp2
          go_roundw
          case rel => exact ⟨k + 1, by omega, by go_num, by rw [← zeroTo_same hlt H0.out]; exact HF.out, HR.out, HKW.out⟩
          case measure => simp [intOf]; omega
        · have h0' : (gi L k != 0) = true := by simp [h0]
          have HS := Lib.hid (back_step HB2.out.f.st hlt h0)
          clear h0
          go_wp2_with (go_at_call 13; refine (turn_any p q _ _ _ _ _ _ (by exact HF.out)).mono ?_; rintro e w3 ⟨rfl, hF3, hk3⟩; rw [HS.out.1]; rw [HS.out.2] at hF3; have HF3 := Lib.hid hF3; have HK3 := Lib.hid hk3; clear hF3 hk3)
          have e1 := HB2.out.pB; have e2 := HB2.out.qB
          have n3 := HB2.out.n3; have n4 := HB2.out.n4
          simp [Value.ownBlock] at n3 n4
          have n1 := HB2.out.n1; have n2 := HB2.out.n2
          go_roundw
          case rel => exact ⟨k + 1, by omega, by go_num, HF3.out, HR.out.keep HK3.out (by omega) (fun j hj => by simp [Value.ownBlock] at hj; omega), (HKW.out.mono (T := fun x => w.heap.size ≤ x) (fun _ _ h => h.elim)).trans (HK3.out.mono (fun _ _ h => by omega)) |>.mono (fun _ _ h => by omega)⟩
          case measure => simp [intOf]; omega
      · obtain rfl : k = L.length := by omega
        have HZ : Hid (countF (zeroTo L L.length) 0 = n) := by
          rw [Hid, ← HL.out]
          simp [countF, stateB, gi, cnts, cnt, zeroTo, List.count_replicate]
        have hz : (countF (zeroTo L L.length) 0 == n) = true := by rw [HZ.out]; simp
        go_wp2_with (go_at_call 11; refine (count_any p q _ _ _ (by exact HF.out)).mono ?_; rintro e w3 ⟨rfl, rfl⟩)
        go_ret
        exact ⟨rfl, keep_below HKW.out⟩

theorem nextN_spec (L : List Int) (a : Int) : ∀ n i, i + n = L.length →
    (nextN L a i n = -1 ∧ (L.take i).count a = L.count a) ∨
    (∃ j, nextN L a i n = (j : Nat) ∧ i ≤ j ∧ j < L.length ∧ gi L j = a ∧ (L.take (j + 1)).count a = (L.take i).count a + 1) := by
  intro n
  induction n with
  | zero => intro i h; exact .inl ⟨rfl, by rw [List.take_of_length_le (by omega)]⟩
  | succ n ih =>
    intro i h
    have hi : i < L.length := by omega
    have hs : (L.take (i + 1)).count a = (L.take i).count a + if gi L i = a then 1 else 0 := by
      rw [gi_eq hi, List.take_succ_eq_append_getElem hi, List.count_append, List.count_singleton]; simp
    by_cases c : gi L i = a
    · exact .inr ⟨i, by rw [nextN_hit (by omega) c], Nat.le_refl _, hi, c, by rw [hs, if_pos c]⟩
    · rw [nextN_miss (by omega) c, Nat.succ_sub_one]
      rw [if_neg c] at hs
      rcases ih (i + 1) (by omega) with ⟨h1, h2⟩ | ⟨j, h1, h2, h3, h4, h5⟩
      · exact .inl ⟨h1, by rw [← h2, hs, Nat.add_zero]⟩
      · exact .inr ⟨j, h1, by omega, h3, h4, by rw [h5, hs, Nat.add_zero]⟩
theorem nextF_spec (L : List Int) (a : Int) (m : Nat) (hm : m ≤ L.length) :
    (nextF L m a = -1 ∧ (L.take m).count a = L.count a) ∨
    (∃ j, nextF L m a = (j : Nat) ∧ m ≤ j ∧ j < L.length ∧ gi L j = a ∧ (L.take (j + 1)).count a = (L.take m).count a + 1) := by
  unfold nextF; rw [Int.toNat_natCast]; exact nextN_spec L a _ m (by omega)
theorem countF_eq {L : List Int} (hs : ∀ x, x ∈ L → 0 ≤ x ∧ x < 6) (a : Int) : countF L a = L.count a := by
  unfold countF
  by_cases c : stateB a = true
  · rw [if_pos c]
    rw [stateB_iff] at c
    obtain ⟨a, rfl⟩ := Int.eq_ofNat_of_zero_le c.1
    rcases (by omega : a = 0 ∨ a = 1 ∨ a = 2 ∨ a = 3 ∨ a = 4 ∨ a = 5) with rfl | rfl | rfl | rfl | rfl | rfl <;> rfl
  · rw [if_neg c, List.count_eq_zero_of_not_mem]
    · rfl
    · intro h; rw [stateB_iff] at c; exact c (hs _ h)

set_option maxHeartbeats 1000000 in
theorem next_walk (n : Int) (la : Option Addr) (l c : Nat) (is : Int) (w : World) (hr : RowsAt w la l [.int .i64, .int .i64, .int .i64, .int .i64]) :
    Calls Try.prog 5 #[.int .i64 n, .slice la l c, .int .i64 is] w fun e w' => e = .returned (.bool true) ∧ Below w.heap.size w w' := by
  by_cases hn : n < 8 ∨ 1024 < n
  · go_enter Try.func5, Try.ntmps5
    go_wp2_with (first | (go_at_call 9; refine (made_no _ _ _ _ _ hn).mono ?_; rintro e w1 ⟨rfl, rfl⟩) | (go_at_call 10; refine (awake_any _).mono ?_; rintro e w2 ⟨rfl, hk⟩))
    go_ret
    exact ⟨rfl, keep_below (Keep.trans (by assumption) hk)⟩
  · obtain ⟨n, rfl⟩ := Int.eq_ofNat_of_zero_le (show 0 ≤ n by omega)
    obtain ⟨A, rfl, hA⟩ := acts_of_rows hr
    go_enter Try.func5, Try.ntmps5
    go_wp2_with (first | (go_at_call 9; refine (made_yes n _ _ _ _ (by omega) (by omega) hA).mono ?_; rintro e w1 ⟨p, q, p', v, L, rfl, hB, hL, hk1⟩; have HB := Lib.hid hB; have HL := Lib.hid hL; have HK := Lib.hid hk1; clear hB hL hk1) | (go_at_call 10; refine (awake_any _).mono ?_; rintro e w2 ⟨rfl, hk⟩))
    have HB2 := Lib.hid (HB.out.keep hk)
    have HK2 := Lib.hid (HK.out.trans hk)
    clear hk
    have hlen := HB2.out.f.hi
    obtain ⟨g, cap, e, hBg, hgp, hcap, hcells⟩ := HB2.out.r.form
    subst e
    have HC := Lib.hid hcells
    clear hcells
    have hc0 := HB2.out.r.c0
    go_loop [10, 11, 12] (fun many i k => ∃ m k' : Nat, k' ≤ m ∧ m ≤ L.length ∧ k = .int .i64 k' ∧ i = .int .i64 ((m : Int) - 1) ∧ many = .int .i64 ((L.take m).count is : Nat)) (fun _ _ k => L.length + 1 - (intOf k).toNat)
    case atStart => exact ⟨0, 0, by omega, by omega, rfl, rfl, rfl⟩
    case round =>
      obtain ⟨m, k', hkm, hm, rfl, rfl, rfl⟩ := hrel
      have hle : k' ≤ L.length := by omega
      have hb : (L.take m).count is ≤ 1024 := Nat.le_trans List.count_le_length (by rw [List.length_take]; omega)
      have e3 : (m : Int) - 1 + 1 = m := by omega
      rcases nextF_spec L is m hm with ⟨h1, h2⟩ | ⟨j, h1, h2, h3, h4, h5⟩
      · have H1 := Lib.hid h1
        have H2 := Lib.hid h2
        clear h1 h2
        have HQ : Hid (countF L is = (L.count is : Nat)) := countF_eq HB2.out.f.st is
        have hq : (((L.take m).count is : Int) == (L.count is : Nat)) = true := by rw [H2.out]; simp
        go_wp2_with (first | (go_at_call 14; refine (next_any p q L _ _ _ (by exact HB2.out.f) (by omega)).mono ?_; rintro e w3 ⟨rfl, rfl⟩; rw [H1.out]) | (go_at_call 15; refine (rcount_any _ p' _ L _ _ (by exact HB2.out.r)).mono ?_; rintro e w3 ⟨rfl, rfl⟩) | (go_at_call 11; refine (count_any p q L _ _ (by exact HB2.out.f)).mono ?_; rintro e w3 ⟨rfl, rfl⟩; rw [HQ.out]))
        go_ret
        exact ⟨rfl, keep_below HK2.out⟩
      · have hcell := HC.out j h3
        have H1 := Lib.hid h1
        have H4 := Lib.hid h4
        have H5 := Lib.hid h5
        have h4' : (gi L j != is) = false := by simp [h4]
        clear h1 h4 h5
        go_wp2_with (go_at_call 14; refine (next_any p q L _ _ _ (by exact HB2.out.f) (by omega)).mono ?_; rintro e w3 ⟨rfl, rfl⟩; rw [H1.out])
        go_round
        case rel => exact ⟨j + 1, k' + 1, by omega, by omega, by go_num, by go_num, by rw [H5.out]; go_num⟩
        case measure => simp [intOf]; omega

end Go.Proofs.Ytajjelfeldofgaa
