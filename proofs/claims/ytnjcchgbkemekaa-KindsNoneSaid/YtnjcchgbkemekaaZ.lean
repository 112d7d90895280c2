/- Buddy: the reference: Free, New. -/
import Derived.Test.YtnjcchgbkemekaaY
set_option linter.unusedVariables false
set_option linter.unusedSimpArgs false
namespace Go.Proofs.Ytnjcchgbkemekaa
open Go.RowKit Go.Own

theorem cnt_succ (F : Nat → Bool) (j : Nat) : cnt F (j + 1) = cnt F j + (if F j then 1 else 0) := by
  unfold cnt
  rw [List.range_succ, List.countP_append]
  simp [List.countP_cons]
set_option maxHeartbeats 1000000 in
theorem rfree_any {w : World} {x g n : Nat} {F : Nat → Bool} (h : RX w x g n F) (hn : n ≤ 1024) :
    Calls Try.prog 11 #[.pointer (some ⟨x, 0, none⟩)] w fun e w' => e = .returned (.int .i64 (cnt F n : Nat)) ∧ w' = w := by
  have c0 := h.c0
  have HM := Lib.hid h.2
  have HN := Lib.hid hn
  clear h hn
  go_enter Try.func11, Try.ntmps11
  go_wp2
  go_loopw [3, 4] (fun c i wr => ∃ j : Nat, j ≤ n ∧ i = .int .i64 (j : Int) ∧ (∃ s : Nat, s = cnt F j ∧ c = .int .i64 (s : Int)) ∧ wr = w) (fun _ i _ => n - (intOf i).toNat)
  case atStart => exact ⟨0, by omega, rfl, ⟨0, rfl, rfl⟩, rfl⟩
  case round =>
    obtain ⟨j, hj, rfl, ⟨s, hs, rfl⟩, rfl⟩ := hrel
    by_cases hjn : j < n
    · have hnn := HN.out
      have hsl : s ≤ j := by rw [hs]; exact cnt_le F j
      have hsc := cnt_succ F j
      rw [← hs] at hsc
      have s1 : (s : Int) < 1024 := by omega
      have s0 : (0 : Int) ≤ s := Int.natCast_nonneg s
      have j0 : (0 : Int) ≤ j := Int.natCast_nonneg j
      have j1 : (j : Int) < (n : Int) := by omega
      have j2 : (j : Int) < 1024 := by omega
      have cm := HM.out.cell hjn
      cases hF : F j with
      | true =>
        rw [hF] at cm hsc
        have HS := Lib.hid hsc
        clear hs hsc hF hnn
        go_wp2
        go_roundw
        case rel => exact ⟨j + 1, by omega, by go_num, ⟨s + 1, HS.out.symm, by go_num⟩, trivial⟩
        case measure => simp [intOf]; omega
      | false =>
        rw [hF] at cm hsc
        have HS := Lib.hid hsc
        clear hs hsc hF hnn
        go_wp2
        go_roundw
        case rel => exact ⟨j + 1, by omega, by go_num, ⟨s, HS.out.symm, rfl⟩, trivial⟩
        case measure => simp [intOf]; omega
    · have j1 : ¬ (j : Int) < (n : Int) := by omega
      obtain rfl : j = n := by omega
      have HS := Lib.hid hs
      clear hs
      go_wp2
      go_ret
      exact ⟨ret_int (by rw [HS.out]), rfl⟩

set_option maxHeartbeats 400000 in
theorem rnew_bad (n : Int) (h : n < 8 ∨ 1024 < n) (w : World) : Calls Try.prog 43 #[.int .i64 n] w fun e w' => e = .returned (.tuple #[.pointer none, .int .i64 2]) ∧ w' = w := by
  by_cases h1 : n < 8
  · clear h
    go_enter Try.func43, Try.ntmps43
    go_wp2
    go_ret2
    exact ⟨rfl, rfl⟩
  · have h2 : 1024 < n := by omega
    clear h
    go_enter Try.func43, Try.ntmps43
    go_wp2
    go_ret2
    exact ⟨rfl, rfl⟩
theorem rnew_start (w : World) (n : Nat) (R : Array Value) (hR : R = Array.replicate n (.bool false)) : RX ((w.alloc (.cells R 4)).alloc (.cells #[.slice (some ⟨w.heap.size, 0, none⟩) n n] 52)) (w.heap.size + 1) w.heap.size n (fun _ => false) := by
  refine ⟨?_, R, ?_, by rw [hR]; simp, fun i hi => by rw [hR]; simp [hi]⟩
  · have h := heap_alloc_new (w.alloc (.cells R 4)) (.cells #[.slice (some ⟨w.heap.size, 0, none⟩) n n] 52)
    rw [World.size_alloc] at h
    exact h
  · rw [heap_alloc_at, World.size_alloc, if_neg (by omega)]
    exact heap_alloc_new w _
set_option maxHeartbeats 1000000 in
theorem rnew_any (n : Nat) (h0 : 8 ≤ n) (h1 : n ≤ 1024) (w : World) : Calls Try.prog 43 #[.int .i64 (n : Int)] w fun e w' => ∃ x g, e = .returned (.tuple #[.pointer (some ⟨x, 0, none⟩), .int .i64 0]) ∧ RX w' x g n (upTo n) ∧ w.heap.size ≤ x ∧ w.heap.size ≤ g ∧ Keep (fun _ => False) w w' := by
  obtain ⟨R, hR⟩ : ∃ R, Array.replicate n (Value.bool false) = R := ⟨_, rfl⟩
  have hmk : ∀ W : World, (Instr.makeSlice 50 (.int .i64 (n : Int)) (.int .i64 (n : Int))).run Try.prog W = .ok (.slice (some ⟨W.heap.size, 0, none⟩) n n) (W.alloc (.cells R 4)) := fun W => by
    rw [← hR]; exact make29' n (by omega) W
  have HI0 := Lib.hid (rnew_start w n R hR.symm)
  clear hR
  have n0 : ¬ (n : Int) < 8 := by omega
  have n1 : ¬ 1024 < (n : Int) := by omega
  go_enter Try.func43, Try.ntmps43
  go_wp2
  go_loopw [5] (fun i wr => ∃ j : Nat, j ≤ n ∧ i = .int .i64 (j : Int) ∧ RX wr (w.heap.size + 1) w.heap.size n (fun i => decide (i < j)) ∧ Keep (fun _ => False) w wr) (fun i _ => n - (intOf i).toNat)
  case atStart => exact ⟨0, by omega, rfl, ⟨HI0.out.1, HI0.out.2.congr fun i _ => by simp⟩, ((Keep.refl _ _).alloc _).alloc _⟩
  case round =>
    obtain ⟨j, hj, rfl, hI, hk⟩ := hrel
    have HI := Lib.hid hI
    have HK := Lib.hid hk
    clear hI hk HI0
    by_cases hjn : j < n
    · have j0 : (0 : Int) ≤ j := Int.natCast_nonneg j
      have j1 : (j : Int) < (n : Int) := by omega
      have j2 : (j : Int) < 1024 := by omega
      have c0 := HI.out.c0
      have cm := HI.out.2.cell hjn
      have fr := HI.out.2.frozen j
      go_wp2
      go_roundw
      case rel => exact ⟨j + 1, by omega, by go_num, ⟨by rw [heap_setCell_ne (by simp)]; exact HI.out.1, (HI.out.2.set true).congr fun i _ => by
        by_cases h1 : i = j
        · rw [if_pos h1]; simp [h1]
        · rw [if_neg h1]
          by_cases h2 : i < j
          · simp [h2]; omega
          · simp [h2]; omega⟩, HK.out.setNew (Nat.le_refl _) _⟩
      case measure => simp [intOf]; omega
    · have j1 : ¬ (j : Int) < (n : Int) := by omega
      obtain rfl : j = n := by omega
      go_wp2
      go_ret2
      exact ⟨_, rfl, _, HI.out, Nat.le_succ _, Nat.le_refl _, HK.out⟩

end Go.Proofs.Ytnjcchgbkemekaa
