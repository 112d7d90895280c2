/- FramesSums: the walk. -/
import Derived.Test.YtajjelfeldofgaaF
set_option linter.unusedVariables false
set_option linter.unusedSimpArgs false
namespace Go.Proofs.Ytajjelfeldofgaa
open Go.RowKit Go.Own

def sumC (L : List Int) : Nat → Int
  | 0 => 0
  | k + 1 => sumC L k + countF L ((k : Int) - 1)
theorem countF_bd {w : World} {p q : Nat} {L : List Int} (h : RepF w p q L) (a : Int) : 0 ≤ countF L a ∧ countF L a ≤ 1024 := by
  unfold countF; split
  · rename_i c; rw [stateB_iff] at c; exact h.cb (by omega)
  · omega
theorem sumC_bd {w : World} {p q : Nat} {L : List Int} (h : RepF w p q L) (k : Nat) : 0 ≤ sumC L k ∧ sumC L k ≤ 1024 * k := by
  induction k with
  | zero => simp [sumC]
  | succ k ih => have := countF_bd h ((k : Int) - 1); simp only [sumC]; omega
theorem sumC_all {L : List Int} (h : ∀ x, x ∈ L → 0 ≤ x ∧ x < 6) : sumC L 9 = L.length := by
  have e : sumC L 9 = cnt L 0 + cnt L 1 + cnt L 2 + cnt L 3 + cnt L 4 + cnt L 5 := by
    simp [sumC, countF, stateB, gi, cnts]
  rw [e]
  unfold cnt
  clear e
  induction L with
  | nil => rfl
  | cons x L ih =>
    have := ih fun y hy => h y (List.mem_cons_of_mem _ hy)
    have hx := h x (List.mem_cons_self ..)
    simp only [List.count_cons, List.length_cons]
    rcases (by omega : x = 0 ∨ x = 1 ∨ x = 2 ∨ x = 3 ∨ x = 4 ∨ x = 5) with rfl | rfl | rfl | rfl | rfl | rfl <;> simp at this ⊢ <;> omega

set_option maxHeartbeats 1000000 in
theorem sums_walk (n : Int) (la : Option Addr) (l c : Nat) (w : World) (hr : RowsAt w la l [.int .i64, .int .i64, .int .i64, .int .i64]) :
    Calls Try.prog 3 #[.int .i64 n, .slice la l c] w fun e w' => e = .returned (.bool true) ∧ Below w.heap.size w w' := by
  by_cases hn : n < 8 ∨ 1024 < n
  · go_enter Try.func3, Try.ntmps3
    go_wp2_with (first | (go_at_call 9; refine (made_no _ _ _ _ _ hn).mono ?_; rintro e w1 ⟨rfl, rfl⟩) | (go_at_call 10; refine (awake_any _).mono ?_; rintro e w2 ⟨rfl, hk⟩))
    go_ret
    exact ⟨rfl, keep_below (Keep.trans (by assumption) hk)⟩
  · obtain ⟨n, rfl⟩ := Int.eq_ofNat_of_zero_le (show 0 ≤ n by omega)
    obtain ⟨A, rfl, hA⟩ := acts_of_rows hr
    go_enter Try.func3, Try.ntmps3
    go_wp2_with (first | (go_at_call 9; refine (made_yes n _ _ _ _ (by omega) (by omega) hA).mono ?_; rintro e w1 ⟨p, q, p', v, L, rfl, hB, hL, hk1⟩; have HB := Lib.hid hB; have HL := Lib.hid hL; have HK := Lib.hid hk1; clear hB hL hk1) | (go_at_call 10; refine (awake_any _).mono ?_; rintro e w2 ⟨rfl, hk⟩))
    have HB2 := Lib.hid (HB.out.keep hk)
    have HK2 := Lib.hid (HK.out.trans hk)
    clear hk
    go_loop [8, 9] (fun s i => ∃ k : Nat, k ≤ 9 ∧ i = .int .i64 ((k : Int) - 1) ∧ s = .int .i64 (sumC L k)) (fun _ i => (8 - intOf i).toNat)
    case atStart => exact ⟨0, by omega, rfl, rfl⟩
    case round =>
      obtain ⟨k, hk, rfl, rfl⟩ := hrel
      have hb := sumC_bd HB2.out.f k
      have hb2 := countF_bd HB2.out.f ((k : Int) - 1)
      have hs : Hid (sumC L (k + 1) = sumC L k + countF L ((k : Int) - 1)) := rfl
      by_cases hlt : k < 9
      · have hlt' : (k : Int) - 1 < 8 := by omega
        go_wp2_with (go_at_call 11; refine (count_any p q L _ _ (by exact HB2.out.f)).mono ?_; rintro e w3 ⟨rfl, rfl⟩)
        go_round
        case rel => exact ⟨k + 1, by omega, by go_num, by rw [hs.out]⟩
        case measure => simp [intOf]; omega
      · obtain rfl : k = 9 := by omega
        have hall : Hid (sumC L 9 = (n : Int)) := by rw [Hid, sumC_all HB2.out.f.st, HL.out]
        have hc := HB2.out.f.c0
        have hall' : (sumC L 9 == (n : Int)) = true := by rw [hall.out]; simp
        clear hb hb2
        go_wp2_with (go_at_call 12; refine (len_any p q L.length _ hc).mono ?_; rintro e w3 ⟨rfl, rfl⟩)
        go_ret
        exact ⟨ret_bool (by rw [HL.out]; simp), keep_below HK2.out⟩

end Go.Proofs.Ytajjelfeldofgaa
