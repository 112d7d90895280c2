/- Memory: the program's bytes. -/
import Derived.Test.YtjffdimlbppgcaaGreatD
import Derived.Lib.EndianBits
import Derived.Lib.SliceRun
set_option linter.unusedVariables false
set_option linter.unusedSimpArgs false
namespace Go.Proofs.YtjffdimlbppgcaaGreat
open Go.RowKit Go.Own

/-- A row as a function. -/
def MetV (w : World) (q e n : Nat) (V : Nat → Value) : Prop := ∃ C : Array Value, w.heap[q]? = some (.cells C e (0, 0)) ∧ n ≤ C.size ∧ ∀ i, i < n → C[i]? = some (V i)
section
variable {w w' : World} {q e n i : Nat} {V V' : Nat → Value}
theorem MetV.cell (h : MetV w q e n V) (hi : i < n) : w.cell? ⟨q, i, none⟩ = some (V i) := by
  obtain ⟨C, h1, h2, h3⟩ := h
  rw [cell_block h1]; exact h3 i hi
theorem MetV.frozen (h : MetV w q e n V) (i : Nat) : w.frozen? ⟨q, i, none⟩ = false := by
  obtain ⟨C, h1, h2, h3⟩ := h
  exact frozen_block h1
theorem MetV.typ (h : MetV w q e n V) : ∃ c, w.heap[q]? = some (.cells c e (0, 0)) := by
  obtain ⟨C, h1, h2, h3⟩ := h
  exact ⟨C, h1⟩
theorem MetV.lt (h : MetV w q e n V) : q < w.heap.size := by
  obtain ⟨c, hc⟩ := h.typ
  exact block_lt hc
theorem MetV.keep {S : Nat → Prop} (h : MetV w q e n V) (k : Keep S w w') (hS : ¬ S q) : MetV w' q e n V := by
  obtain ⟨C, h1, h2, h3⟩ := h
  exact ⟨C, (k.block q (block_lt h1) hS).trans h1, h2, h3⟩
theorem MetV.set (x : Value) (h : MetV w q e n V) : MetV (w.setCell ⟨q, i, none⟩ x) q e n (fun j => if j = i then x else V j) := by
  obtain ⟨C, h1, h2, h3⟩ := h
  refine ⟨C.setIfInBounds i x, heap_setCell_eq h1, by simpa using h2, fun j hj => ?_⟩
  show _ = some (if j = i then x else V j)
  by_cases e : j = i
  · subst e
    rw [if_pos rfl, Array.getElem?_setIfInBounds_self_of_lt (by omega)]
  · rw [if_neg e, Array.getElem?_setIfInBounds_ne (by omega)]
    exact h3 j hj
theorem MetV.congr (h : MetV w q e n V) (hV : ∀ i, i < n → V i = V' i) : MetV w q e n V' := by
  obtain ⟨C, h1, h2, h3⟩ := h
  exact ⟨C, h1, h2, fun i hi => by rw [h3 i hi, hV i hi]⟩
end
/-- A word's byte. -/
def byt (x j : Nat) : Nat := x / 256 ^ j % 256
def byV (Wd : Nat → Nat) : Nat → Value := fun j => .int .u8 ((byt (Wd (j / 8)) (j % 8) : Nat) : Int)
/-- The bytes of n frames: Wd are the words. -/
structure RA (w : World) (r b n : Nat) (Wd : Nat → Nat) : Prop where
  hr : w.heap[r]? = some (.cells #[.slice (some ⟨b, 0, none⟩) (64 * n) (64 * n)] 77 (0, 0))
  mb : MetV w b 5 (64 * n) (byV Wd)
  n8 : 8 ≤ n ∧ n ≤ 1024
  lt : ∀ i, i < 8 * n → Wd i < 18446744073709551616
theorem byt_lt (x j : Nat) : byt x j < 256 := Nat.mod_lt _ (by decide)
theorem RA.c0 {w : World} {r b n : Nat} {Wd : Nat → Nat} (h : RA w r b n Wd) : w.cell? ⟨r, 0, none⟩ = some (.slice (some ⟨b, 0, none⟩) (64 * n) (64 * n)) := by simp [cell_block h.hr]
theorem RA.keep {w w' : World} {r b n : Nat} {Wd : Nat → Nat} {S : Nat → Prop} (h : RA w r b n Wd) (k : Keep S w w') (hr : ¬ S r) (hb : ¬ S b) : RA w' r b n Wd :=
  ⟨(k.block r (block_lt h.hr) hr).trans h.hr, h.mb.keep k hb, h.n8, h.lt⟩

set_option maxHeartbeats 1000000 in
theorem wrong_ok {w : World} {r b n i : Nat} {Wd : Nat → Nat} (h : RA w r b n Wd) (hi : i < 8 * n) : Calls Tryz.prog 36 #[.pointer (some ⟨r, 0, none⟩), .int .i64 ((8 * i : Nat) : Int), .int .i64 8] w fun e w' => e = .returned (.int .i64 0) ∧ w' = w := by
  have c0 := h.c0
  obtain ⟨L, hL⟩ : ∃ L, 64 * n = L := ⟨_, rfl⟩
  rw [hL] at c0
  obtain ⟨z, hz⟩ : ∃ z, 8 * i = z := ⟨_, rfl⟩
  rw [hz]
  have z0 : decide ((z : Int) < 0) = false := by simp
  have z1 : decide ((L : Int) ≤ (z : Int)) = false := by simp; omega
  have z2 : decide (L ≤ z) = false := by simp; omega
  have z3 : (z : Int) % 8 = 0 := by omega
  have z4 : Int.tmod (z : Int) 8 = 0 := (Int.tmod_eq_emod_of_nonneg (by omega)).trans z3
  clear h hi hL hz
  go_enter Tryz.func36, Tryz.ntmps36
  go_wp2
  go_ret
  exact ⟨rfl, rfl⟩

theorem word_step (x j : Nat) : x % 256 ^ j + byt x j * 256 ^ j = x % 256 ^ (j + 1) := by
  unfold byt
  rw [Nat.pow_succ, Nat.mod_mul, Nat.mul_comm (256 ^ j)]
theorem cases8 {j : Nat} (h : j < 8) : j = 0 ∨ j = 1 ∨ j = 2 ∨ j = 3 ∨ j = 4 ∨ j = 5 ∨ j = 6 ∨ j = 7 := by omega

set_option maxRecDepth 100000 in
set_option maxHeartbeats 2000000 in
theorem load_ok {w : World} {r b n i : Nat} {Wd : Nat → Nat} (h : RA w r b n Wd) (hi : i < 8 * n) : Calls Tryz.prog 14 #[.pointer (some ⟨r, 0, none⟩), .int .i64 ((8 * i : Nat) : Int)] w fun e w' => e = .returned (.tuple #[.int .u64 (Wd i : Nat), .int .i64 0]) ∧ w' = w := by
  have c0 := h.c0
  have HW : Hid (Calls Tryz.prog 36 #[.pointer (some ⟨r, 0, none⟩), .int .i64 ((8 * i : Nat) : Int), .int .i64 8] w fun e w' => e = .returned (.int .i64 0) ∧ w' = w) := wrong_ok h hi
  have HB : Hid (∀ j, j < 8 → w.cell? ⟨b, 8 * i + j, none⟩ = some (.int .u8 ((byt (Wd i) j : Nat) : Int))) := fun j hj => by
    have := h.mb.cell (i := 8 * i + j) (by omega)
    rw [this]
    unfold byV
    rw [show (8 * i + j) / 8 = i by omega, show (8 * i + j) % 8 = j by omega]
  have hx := h.lt i hi
  have hzL : 8 * i + 8 ≤ 64 * n := by omega
  have hn := h.n8.2
  obtain ⟨x, hxx⟩ : ∃ x, Wd i = x := ⟨_, rfl⟩
  rw [hxx] at HB hx ⊢
  obtain ⟨L, hL⟩ : ∃ L, 64 * n = L := ⟨_, rfl⟩
  rw [hL] at c0 hzL
  obtain ⟨z, hz⟩ : ∃ z, 8 * i = z := ⟨_, rfl⟩
  rw [hz] at HW HB hzL ⊢
  have hL2 : L ≤ 65536 := by omega
  clear h hi hL hz hxx hn
  go_enter Tryz.func14, Tryz.ntmps14
  go_wp2_with (go_at_call 36; refine HW.out.mono ?_; rintro e w1 ⟨rfl, rfl⟩)
  go_loop [7, 15] (fun v i => ∃ j : Nat, j ≤ 8 ∧ i = .int .i64 (j : Int) ∧ v = .int .u64 ((x % 256 ^ j : Nat) : Int)) (fun _ i => 8 - (intOf i).toNat)
  case atStart => exact ⟨0, by omega, rfl, by simp [Nat.mod_one]⟩
  case round =>
    obtain ⟨j, hj, rfl, rfl⟩ := hrel
    by_cases hlt : j < 8
    · have hc := HB.out j hlt
      have hst := word_step x j
      have hb := byt_lt x j
      obtain ⟨y, hy⟩ : ∃ y, byt x j = y := ⟨_, rfl⟩
      rw [hy] at hc hst hb
      rcases cases8 hlt with rfl | rfl | rfl | rfl | rfl | rfl | rfl | rfl
      all_goals
        simp only [Nat.reducePow, Nat.reduceAdd, Nat.add_zero] at hst hc ⊢
        go_wp2
        go_round
        case rel =>
          first
            | refine ⟨1, by omega, rfl, congrArg _ ?_⟩
            | refine ⟨2, by omega, rfl, congrArg _ ?_⟩
            | refine ⟨3, by omega, rfl, congrArg _ ?_⟩
            | refine ⟨4, by omega, rfl, congrArg _ ?_⟩
            | refine ⟨5, by omega, rfl, congrArg _ ?_⟩
            | refine ⟨6, by omega, rfl, congrArg _ ?_⟩
            | refine ⟨7, by omega, rfl, congrArg _ ?_⟩
            | refine ⟨8, by omega, rfl, congrArg _ ?_⟩
          first
            | rw [bits_join_low .u64 64 (by decide) wraps_u64 0 0 _ (by omega) (by omega) (by omega) (by omega) (by omega) (by omega)]
            | simp (disch := omega) only [u64_or8, u64_or16, u64_or24, u64_or32, u64_or40, u64_or48, u64_or56]
          simp only [Nat.reducePow]
          omega
        case measure => simp [intOf]
    · obtain rfl : j = 8 := by omega
      have e : x % 256 ^ 8 = x := Nat.mod_eq_of_lt (by simpa using hx)
      rw [e]
      clear e hlt
      go_wp2
      go_ret2
      exact ⟨rfl, rfl⟩

end Go.Proofs.YtjffdimlbppgcaaGreat
