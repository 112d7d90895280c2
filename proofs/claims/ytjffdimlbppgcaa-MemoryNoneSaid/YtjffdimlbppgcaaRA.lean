/- Memory: the program's bytes. -/
import Derived.Test.YtjffdimlbppgcaaD
import Derived.Lib.EndianBits
import Derived.Lib.SliceRun
set_option linter.unusedVariables false
set_option linter.unusedSimpArgs false
namespace Go.Proofs.Ytjffdimlbppgcaa
open Go.RowKit Go.Own

/-- A row as a function. -/
def MetV (w : World) (q e n : Nat) (V : Nat → Value) : Prop := ∃ C : Array Value, w.heap[q]? = some (.cells C e (0, 0)) ∧ n ≤ C.size ∧ ∀ i, i < n → C[i]? = some (V i)
section
variable {w w' : World} {q e n i : Nat} {V V' : Nat → Value}
theorem MetV.cell (h : MetV w q e n V) (hi : i < n) : w.cell? ⟨q, i, none⟩ = some (V i) := by
  obtain ⟨C, h1, h2, h3⟩ := h
  rw [cell_block h1]; exact h3 i hi
theorem MetV.frozen (h : MetV w q e n V) (i : Nat) : w.frozen? ⟨q, i, none⟩ = false := by
  obtain ⟨C, h1, h2, h3⟩ := h
  exact frozen_block h1
theorem MetV.typ (h : MetV w q e n V) : ∃ c, w.heap[q]? = some (.cells c e (0, 0)) := by
  obtain ⟨C, h1, h2, h3⟩ := h
  exact ⟨C, h1⟩
theorem MetV.lt (h : MetV w q e n V) : q < w.heap.size := by
  obtain ⟨c, hc⟩ := h.typ
  exact block_lt hc
theorem MetV.keep {S : Nat → Prop} (h : MetV w q e n V) (k : Keep S w w') (hS : ¬ S q) : MetV w' q e n V := by
  obtain ⟨C, h1, h2, h3⟩ := h
  exact ⟨C, (k.block q (block_lt h1) hS).trans h1, h2, h3⟩
theorem MetV.set (x : Value) (h : MetV w q e n V) : MetV (w.setCell ⟨q, i, none⟩ x) q e n (fun j => if j = i then x else V j) := by
  obtain ⟨C, h1, h2, h3⟩ := h
  refine ⟨C.setIfInBounds i x, heap_setCell_eq h1, by simpa using h2, fun j hj => ?_⟩
  show _ = some (if j = i then x else V j)
  by_cases e : j = i
  · subst e
    rw [if_pos rfl, Array.getElem?_setIfInBounds_self_of_lt (by omega)]
  · rw [if_neg e, Array.getElem?_setIfInBounds_ne (by omega)]
    exact h3 j hj
theorem MetV.congr (h : MetV w q e n V) (hV : ∀ i, i < n → V i = V' i) : MetV w q e n V' := by
  obtain ⟨C, h1, h2, h3⟩ := h
  exact ⟨C, h1, h2, fun i hi => by rw [h3 i hi, hV i hi]⟩
end
/-- A word's byte. -/
def byt (x j : Nat) : Nat := x / 256 ^ j % 256
def byV (Wd : Nat → Nat) : Nat → Value := fun j => .int .u8 ((byt (Wd (j / 8)) (j % 8) : Nat) : Int)
/-- The bytes of n frames: Wd are the words. -/
structure RA (w : World) (r b n : Nat) (Wd : Nat → Nat) : Prop where
  hr : w.heap[r]? = some (.cells #[.slice (some ⟨b, 0, none⟩) (64 * n) (64 * n)] 80 (0, 0))
  mb : MetV w b 5 (64 * n) (byV Wd)
  n8 : 8 ≤ n ∧ n ≤ 1024
  lt : ∀ i, i < 8 * n → Wd i < 18446744073709551616
theorem byt_lt (x j : Nat) : byt x j < 256 := Nat.mod_lt _ (by decide)
theorem RA.c0 {w : World} {r b n : Nat} {Wd : Nat → Nat} (h : RA w r b n Wd) : w.cell? ⟨r, 0, none⟩ = some (.slice (some ⟨b, 0, none⟩) (64 * n) (64 * n)) := by simp [cell_block h.hr]
theorem RA.keep {w w' : World} {r b n : Nat} {Wd : Nat → Nat} {S : Nat → Prop} (h : RA w r b n Wd) (k : Keep S w w') (hr : ¬ S r) (hb : ¬ S b) : RA w' r b n Wd :=
  ⟨(k.block r (block_lt h.hr) hr).trans h.hr, h.mb.keep k hb, h.n8, h.lt⟩

theorem word_step (x j : Nat) : x % 256 ^ j + byt x j * 256 ^ j = x % 256 ^ (j + 1) := by
  unfold byt
  rw [Nat.pow_succ, Nat.mod_mul, Nat.mul_comm (256 ^ j)]
theorem cases8 {j : Nat} (h : j < 8) : j = 0 ∨ j = 1 ∨ j = 2 ∨ j = 3 ∨ j = 4 ∨ j = 5 ∨ j = 6 ∨ j = 7 := by omega

end Go.Proofs.Ytjffdimlbppgcaa
