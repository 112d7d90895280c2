/- Compounds: the object, and the looks at it. -/
import Derived.Test.YtdomdjfecnbenaaRows
import Derived.Test.YtdomdjfecnbenaaLib
import Derived.Test.YtdomdjfecnbenaaReg
import Derived.KernelRfl
import Derived.Laws.ResultCell
import Derived.Deep.RegionHeld3
import Derived.Deep.RegionLaw
import Derived.Deep.RegionLawGrows
import Derived.IntWalk
import Derived.Deep.QuietTactic
import Derived.BigQuiet
import Derived.Laws.BitsAllLaws
set_option linter.unusedVariables false
set_option linter.unusedSimpArgs false
namespace Go.Proofs.Ytdomdjfecnbenaa
open Go.RowKit Go.Own

/-- A compound: its frame, which are lost. -/
structure Cp where
  f : Int
  b : Nat
  deriving DecidableEq
def cpE : Enc Cp where
  c := fun x => [.int .i64 x.f, .int .u8 x.b]
  k := 2
  hk := by decide
  len := fun _ => rfl
  one := fun x u hu => by simp at hu; rcases hu with rfl | rfl <;> rfl
def inE : Enc Int where
  c := fun x => [.int .i64 x]
  k := 1
  hk := by decide
  len := fun _ => rfl
  one := fun x u hu => by simp at hu; subst hu; rfl

theorem info39 : (Try.prog.info? 39).map (fun i => (i.zero, i.size, i.bytes)) = some (some (.agg #[.int .i64 0, .int .u8 0]), 2, 16) := by kernel_rfl
theorem info3 : (Try.prog.info? 3).map (fun i => (i.zero, i.size, i.bytes)) = some (some (.int .i64 0), 1, 8) := by kernel_rfl
theorem et31 : ET Try.prog 31 39 (.agg #[.int .i64 0, .int .u8 0]) 2 16 := ⟨Try.underlying31, info39, rfl, by decide⟩
theorem et46 : ET Try.prog 46 3 (.int .i64 0) 1 8 := ⟨Try.underlying46, info3, rfl, by decide⟩

/-- The object at p: the compounds L, the queue Q. -/
structure RepC (w : World) (B p : Nat) (v u : Value) (L : List Cp) (Q : List Int) : Prop where
  hp : w.heap[p]? = some (.cells #[v, u] 61 (0, 0))
  hv : OwnL cpE w B 39 v L
  hu : OwnL inE w B 3 u Q
  nv : v.ownBlock ≠ some p
  nu : u.ownBlock ≠ some p
  nn : ∀ x, v.ownBlock = some x → u.ownBlock ≠ some x
  hl : L.length ≤ 200
  hq : Q.length ≤ 200
  hb : ∀ x, x ∈ L → x.b < 256

section
variable {w : World} {B p : Nat} {v u : Value} {L : List Cp} {Q : List Int} (h : RepC w B p v u L Q)
include h
theorem RepC.c0 : w.cell? ⟨p, 0, none⟩ = some v := by rw [cell_block h.hp]; rfl
theorem RepC.c1 : w.cell? ⟨p, 1, none⟩ = some u := by rw [cell_block h.hp]; rfl
theorem RepC.keep {S : Nat → Prop} {w' : World} (k : Keep S w w') (hp : ¬ S p) (hv : ∀ x, v.ownBlock = some x → ¬ S x) (hu : ∀ x, u.ownBlock = some x → ¬ S x) : RepC w' B p v u L Q :=
  ⟨(k.block p (block_lt h.hp) hp).trans h.hp, h.hv.keep k hv, h.hu.keep k hu, h.nv, h.nu, h.nn, h.hl, h.hq, h.hb⟩
theorem RepC.keep0 {w' : World} (k : Keep (fun _ => False) w w') : RepC w' B p v u L Q := h.keep k id (fun _ _ => id) (fun _ _ => id)
end

theorem cp_cells {w : World} {B : Nat} {g n cap i : Nat} {L : List Cp} (h : OwnL cpE w B 39 (.slice (some ⟨g, 0, none⟩) n cap) L) (hi : i < L.length) :
    w.cell? ⟨g, i * 2, none⟩ = some (.int .i64 L[i].f) ∧ w.cell? ⟨g, i * 2 + 1, none⟩ = some (.int .u8 L[i].b) :=
  ⟨OwnL.cell (j := 0) h hi (by decide), OwnL.cell (j := 1) h hi (by decide)⟩
theorem in_cell {w : World} {B : Nat} {g n cap i : Nat} {Q : List Int} (h : OwnL inE w B 3 (.slice (some ⟨g, 0, none⟩) n cap) Q) (hi : i < Q.length) :
    w.cell? ⟨g, i, none⟩ = some (.int .i64 Q[i]) := by
  have := OwnL.cell (j := 0) h hi (by decide)
  simpa [inE] using this

set_option maxHeartbeats 400000 in
theorem new_any (B : Nat) (w : World) (hB : B ≤ w.heap.size) : Calls Try.prog 8 #[] w fun e w' => ∃ p, e = .returned (.pointer (some ⟨p, 0, none⟩)) ∧ RepC w' B p (.slice none 0 0) (.slice none 0 0) [] [] ∧ w.heap.size ≤ p ∧ Keep (fun _ => False) w w' := by
  go_enter Try.func8, Try.ntmps8
  go_wp2
  go_ret
  exact ⟨w.heap.size, rfl, ⟨heap_alloc_new w _, OwnL.nil _ _ _, OwnL.nil _ _ _, by simp [Value.ownBlock], by simp [Value.ownBlock], by simp [Value.ownBlock], by simp, by simp, by simp⟩, Nat.le_refl _, (Keep.refl _ _).alloc _⟩

theorem order3 (w : World) : Calls Try.prog 35 #[.int .i64 3] w fun e w' => e = .returned (.bool true) ∧ w = w' := by
  go_enter Try.func35, Try.ntmps35
  go_wp2
  go_ret
  exact ⟨rfl, rfl⟩

theorem an7 : ∀ x : Fin 1024, bits .andNot .i64 (x.val : Int) 7 = ((x.val / 8 * 8 : Nat) : Int) := by decide +kernel
theorem and7 : ∀ x : Fin 1024, bits .and .i64 (x.val : Int) 7 = ((x.val % 8 : Nat) : Int) := by decide +kernel

set_option maxHeartbeats 400000 in
theorem down_any (x : Nat) (hx : x < 1024) (w : World) : Calls Try.prog 36 #[.int .i64 x, .int .i64 3] w fun e w' => e = .returned (.int .i64 ((x / 8 * 8 : Nat) : Int)) ∧ w = w' := by
  have h7 := an7 ⟨x, hx⟩
  simp only at h7
  go_enter Try.func36, Try.ntmps36
  go_wp2_with (go_at_call 35; refine (order3 _).mono ?_; rintro e w1 ⟨rfl, rfl⟩)
  go_ret
  exact ⟨rfl, rfl⟩

set_option maxHeartbeats 400000 in
theorem even_any (x : Nat) (hx : x < 1024) (w : World) : Calls Try.prog 25 #[.int .i64 x, .int .i64 3] w fun e w' => e = .returned (.bool (decide (x / 8 * 8 = x))) ∧ w = w' := by
  go_enter Try.func25, Try.ntmps25
  go_wp2_with (first | (go_at_call 35; refine (order3 _).mono ?_; rintro e w1 ⟨rfl, rfl⟩) | (go_at_call 36; refine (down_any x hx _).mono ?_; rintro e w1 ⟨rfl, rfl⟩))
  go_ret
  exact ⟨ret_bool (by rw [Bool.eq_iff_iff]; simp; try omega), rfl⟩

set_option maxHeartbeats 1000000 in
theorem bit_any (x : Nat) (hx : x < 1024) (w : World) : Calls Try.prog 29 #[.int .i64 x] w fun e w' => e = .returned (.int .u8 ((2 ^ (x % 8) : Nat) : Int)) ∧ w = w' := by
  have h7 := and7 ⟨x, hx⟩
  simp only at h7
  have h8 : x % 8 < 8 := Nat.mod_lt _ (by decide)
  obtain ⟨r, hr⟩ : ∃ r, x % 8 = r := ⟨_, rfl⟩
  rw [hr] at h7 h8 ⊢
  clear hr
  have hc : r = 0 ∨ r = 1 ∨ r = 2 ∨ r = 3 ∨ r = 4 ∨ r = 5 ∨ r = 6 ∨ r = 7 := by omega
  rcases hc with rfl | rfl | rfl | rfl | rfl | rfl | rfl | rfl
  all_goals
    go_enter Try.func29, Try.ntmps29
    go_wp2
    go_ret
    exact ⟨rfl, rfl⟩

end Go.Proofs.Ytdomdjfecnbenaa
