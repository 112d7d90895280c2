/- Reservations: the object. -/
import Derived.Test.YtmbgebmhdofdaaaRows
import Derived.Test.YtmbgebmhdofdaaaLib
import Derived.Test.YtmbgebmhdofdaaaReg
import Derived.KernelRfl
import Derived.Laws.ResultCell
import Derived.Deep.RegionHeld3
import Derived.Deep.RegionLaw
import Derived.Deep.RegionLawGrows
import Derived.IntWalk
import Derived.Deep.QuietTactic
import Derived.BigQuiet
import Derived.Laws.BitsAllLaws
import Derived.OwnWalk
set_option linter.unusedVariables false
set_option linter.unusedSimpArgs false
namespace Go.Proofs.Ytmbgebmhdofdaaa
open Go.RowKit Go.Own

/-- A reservation. -/
structure Rv where
  s : Int
  p : Int
  f : Int
  b : Nat
  deriving DecidableEq
def rvE : Enc Rv where
  c := fun x => [.int .i64 x.s, .int .i64 x.p, .int .i64 x.f, .int .u8 x.b]
  k := 4
  hk := by decide
  len := fun _ => rfl
  one := fun x u hu => by simp at hu; rcases hu with rfl | rfl | rfl | rfl <;> rfl
def inE : Enc Int where
  c := fun x => [.int .i64 x]
  k := 1
  hk := by decide
  len := fun _ => rfl
  one := fun x u hu => by simp at hu; subst hu; rfl
def rv0 : Rv := ⟨0, 0, 0, 0⟩
def rvV (x : Rv) : Value := .agg #[.int .i64 x.s, .int .i64 x.p, .int .i64 x.f, .int .u8 x.b]

theorem info31 : (Try.prog.info? 31).map (fun i => (i.zero, i.size, i.bytes)) = some (some (.agg #[.int .i64 0, .int .i64 0, .int .i64 0, .int .u8 0]), 4, 32) := by kernel_rfl
theorem info3 : (Try.prog.info? 3).map (fun i => (i.zero, i.size, i.bytes)) = some (some (.int .i64 0), 1, 8) := by kernel_rfl
theorem et28 : ET Try.prog 28 31 (.agg #[.int .i64 0, .int .i64 0, .int .i64 0, .int .u8 0]) 4 32 := ⟨Try.underlying28, info31, rfl, by decide⟩
theorem et42 : ET Try.prog 42 3 (.int .i64 0) 1 8 := ⟨Try.underlying42, info3, rfl, by decide⟩

/-- The object at p: the reservations L. -/
structure RepR (w : World) (B p : Nat) (v : Value) (L : List Rv) : Prop where
  hp : w.heap[p]? = some (.cells #[v] 64 (0, 0))
  hv : OwnL rvE w B 31 v L
  nv : v.ownBlock ≠ some p
  hl : L.length ≤ 200

section
variable {w : World} {B p : Nat} {v : Value} {L : List Rv} (h : RepR w B p v L)
include h
theorem RepR.c0 : w.cell? ⟨p, 0, none⟩ = some v := by rw [cell_block h.hp]; rfl
theorem RepR.keep {S : Nat → Prop} {w' : World} (k : Keep S w w') (hp : ¬ S p) (hv : ∀ x, v.ownBlock = some x → ¬ S x) : RepR w' B p v L :=
  ⟨(k.block p (block_lt h.hp) hp).trans h.hp, h.hv.keep k hv, h.nv, h.hl⟩
theorem RepR.keep0 {w' : World} (k : Keep (fun _ => False) w w') : RepR w' B p v L := h.keep k id (fun _ _ => id)
end

theorem rv_cells {w : World} {B : Nat} {g n cap i : Nat} {L : List Rv} (h : OwnL rvE w B 31 (.slice (some ⟨g, 0, none⟩) n cap) L) (hi : i < L.length) :
    w.cell? ⟨g, i * 4, none⟩ = some (.int .i64 L[i].s) ∧ w.cell? ⟨g, i * 4 + 1, none⟩ = some (.int .i64 L[i].p) ∧ w.cell? ⟨g, i * 4 + 1 + 1, none⟩ = some (.int .i64 L[i].f) ∧ w.cell? ⟨g, i * 4 + 1 + 1 + 1, none⟩ = some (.int .u8 L[i].b) :=
  ⟨OwnL.cell (j := 0) h hi (by decide), OwnL.cell (j := 1) h hi (by decide), OwnL.cell (j := 2) h hi (by decide), OwnL.cell (j := 3) h hi (by decide)⟩
theorem cells4 {w : World} {b e : Nat} {x0 x1 x2 x3 : Value} {z : Nat × Nat} (hb : w.heap[b]? = some (.cells #[x0, x1, x2, x3] e z)) :
    w.cell? ⟨b, 0, none⟩ = some x0 ∧ w.cell? ⟨b, 1, none⟩ = some x1 ∧ w.cell? ⟨b, 2, none⟩ = some x2 ∧ w.cell? ⟨b, 3, none⟩ = some x3 := by
  simp [cell_block hb]
theorem cells2 {w : World} {b e : Nat} {x0 x1 : Value} {z : Nat × Nat} (hb : w.heap[b]? = some (.cells #[x0, x1] e z)) : w.cell? ⟨b, 0, none⟩ = some x0 ∧ w.cell? ⟨b, 1, none⟩ = some x1 := by
  simp [cell_block hb]

set_option maxHeartbeats 400000 in
theorem new_any (B : Nat) (w : World) (hB : B ≤ w.heap.size) : Calls Try.prog 12 #[] w fun e w' => ∃ p, e = .returned (.pointer (some ⟨p, 0, none⟩)) ∧ RepR w' B p (.slice none 0 0) [] ∧ w.heap.size ≤ p ∧ Keep (fun _ => False) w w' := by
  go_enter Try.func12, Try.ntmps12
  go_wp2
  go_ret
  exact ⟨w.heap.size, rfl, ⟨heap_alloc_new w _, OwnL.nil _ _ _, by simp [Value.ownBlock], by simp⟩, Nat.le_refl _, (Keep.refl _ _).alloc _⟩

theorem order3 (w : World) : Calls Try.prog 41 #[.int .i64 3] w fun e w' => e = .returned (.bool true) ∧ w = w' := by
  go_enter Try.func41, Try.ntmps41
  go_wp2
  go_ret
  exact ⟨rfl, rfl⟩

theorem an7 : ∀ x : Fin 1024, bits .andNot .i64 (x.val : Int) 7 = ((x.val / 8 * 8 : Nat) : Int) := by decide +kernel
theorem and7 : ∀ x : Fin 1024, bits .and .i64 (x.val : Int) 7 = ((x.val % 8 : Nat) : Int) := by decide +kernel

set_option maxHeartbeats 400000 in
theorem down_any (x : Nat) (hx : x < 1024) (w : World) : Calls Try.prog 35 #[.int .i64 x, .int .i64 3] w fun e w' => e = .returned (.int .i64 ((x / 8 * 8 : Nat) : Int)) ∧ w = w' := by
  have h7 := an7 ⟨x, hx⟩
  simp only at h7
  go_enter Try.func35, Try.ntmps35
  go_wp2_with (go_at_call 41; refine (order3 _).mono ?_; rintro e w1 ⟨rfl, rfl⟩)
  go_ret
  exact ⟨rfl, rfl⟩

set_option maxHeartbeats 400000 in
theorem even_any (x : Nat) (hx : x < 1024) (w : World) : Calls Try.prog 30 #[.int .i64 x, .int .i64 3] w fun e w' => e = .returned (.bool (decide (x / 8 * 8 = x))) ∧ w = w' := by
  go_enter Try.func30, Try.ntmps30
  go_wp2_with (first | (go_at_call 41; refine (order3 _).mono ?_; rintro e w1 ⟨rfl, rfl⟩) | (go_at_call 35; refine (down_any x hx _).mono ?_; rintro e w1 ⟨rfl, rfl⟩))
  go_ret
  exact ⟨ret_bool (by rw [Bool.eq_iff_iff]; simp; try omega), rfl⟩

set_option maxHeartbeats 1000000 in
theorem bit_any (x : Nat) (hx : x < 1024) (w : World) : Calls Try.prog 32 #[.int .i64 x] w fun e w' => e = .returned (.int .u8 ((2 ^ (x % 8) : Nat) : Int)) ∧ w = w' := by
  have h7 := and7 ⟨x, hx⟩
  simp only at h7
  have h8 : x % 8 < 8 := Nat.mod_lt _ (by decide)
  obtain ⟨r, hr⟩ : ∃ r, x % 8 = r := ⟨_, rfl⟩
  rw [hr] at h7 h8 ⊢
  clear hr
  have hc : r = 0 ∨ r = 1 ∨ r = 2 ∨ r = 3 ∨ r = 4 ∨ r = 5 ∨ r = 6 ∨ r = 7 := by omega
  rcases hc with rfl | rfl | rfl | rfl | rfl | rfl | rfl | rfl
  all_goals
    go_enter Try.func32, Try.ntmps32
    go_wp2
    go_ret
    exact ⟨rfl, rfl⟩

theorem bit_q (x : Nat) (hx : x < 1024) (w : World) : Calls Try.prog 32 #[.int .i64 x] w fun e w' => e = .returned (.int .u8 ((2 ^ (x % 8) : Nat) : Int)) ∧ w' = w :=
  (bit_any x hx w).mono fun _ _ h => ⟨h.1, h.2.symm⟩

set_option maxHeartbeats 400000 in
theorem of_any (x : Rv) (w : World) : Calls Try.prog 28 #[rvV x] w fun e w' => e = .returned (.agg #[.int .i64 x.s, .int .i64 x.p]) ∧ Keep (fun _ => False) w w' := by
  unfold rvV
  go_enter Try.func28, Try.ntmps28
  go_wp2
  refine bodyPost_ret (v := .agg #[.int .i64 x.s, .int .i64 x.p]) ?_ rfl ⟨rfl, (by (repeat (first | exact Keep.refl _ _ | exact Keep.refl _ _ | refine Keep.drew ?_ | refine Keep.drewN ?_ _ | refine Keep.alloc ?_ _ | refine Keep.setNew ?_ (by omega) _)); done)⟩
  simp [results, Try.results28, go_sem]

theorem s6 {w W : World} {b c : Nat} {x0 x1 x2 x3 y0 y1 : Value} (K : Keep (fun _ => False) w W)
    (hx : w.cell? ⟨b, 0, none⟩ = some x0 ∧ w.cell? ⟨b, 1, none⟩ = some x1 ∧ w.cell? ⟨b, 2, none⟩ = some x2 ∧ w.cell? ⟨b, 3, none⟩ = some x3) (hy : w.cell? ⟨c, 0, none⟩ = some y0 ∧ w.cell? ⟨c, 1, none⟩ = some y1) :
    W.cell? ⟨b, 0, none⟩ = some x0 ∧ W.cell? ⟨b, 1, none⟩ = some x1 ∧ W.cell? ⟨b, 2, none⟩ = some x2 ∧ W.cell? ⟨b, 3, none⟩ = some x3 ∧ W.cell? ⟨c, 0, none⟩ = some y0 ∧ W.cell? ⟨c, 1, none⟩ = some y1 := by
  have f : ∀ {b i : Nat} {x : Value}, w.cell? ⟨b, i, none⟩ = some x → W.cell? ⟨b, i, none⟩ = some x := fun h => (K.cell (block_lt_cell h) id).trans h
  exact ⟨f hx.1, f hx.2.1, f hx.2.2.1, f hx.2.2.2, f hy.1, f hy.2⟩

set_option maxHeartbeats 1000000 in
theorem test_any (x : Rv) (b : Nat) (w : World) (hb : w.cell? ⟨b, 0, none⟩ = some (.int .i64 x.s) ∧ w.cell? ⟨b, 1, none⟩ = some (.int .i64 x.p)) :
    Calls Try.prog 43 #[rvV x, .pointer (some ⟨b, 0, none⟩)] w fun e w' => e = .returned (.bool true) ∧ Keep (fun _ => False) w w' := by
  unfold rvV
  have KB : Hid (Keep (fun _ => False) w (w.alloc (.cells #[.int .i64 x.s, .int .i64 x.p, .int .i64 x.f, .int .u8 x.b] 31))) := (Keep.refl _ _).alloc _
  have HX := Lib.hid (cells4 (heap_alloc_new w (.cells #[.int .i64 x.s, .int .i64 x.p, .int .i64 x.f, .int .u8 x.b] 31)))
  have HY := Lib.hid (show (w.alloc (.cells #[.int .i64 x.s, .int .i64 x.p, .int .i64 x.f, .int .u8 x.b] 31)).cell? ⟨b, 0, none⟩ = some (.int .i64 x.s) ∧ (w.alloc (.cells #[.int .i64 x.s, .int .i64 x.p, .int .i64 x.f, .int .u8 x.b] 31)).cell? ⟨b, 1, none⟩ = some (.int .i64 x.p) from ⟨(cell_alloc_lt (block_lt_cell hb.1)).trans hb.1, (cell_alloc_lt (block_lt_cell hb.2)).trans hb.2⟩)
  clear hb
  go_enter Try.func43, Try.ntmps43
  go_wp2
  go_region_held3 (fun w' => w'.cell? ⟨w.heap.size, 0, none⟩ = some (.int .i64 x.s) ∧ w'.cell? ⟨w.heap.size, 1, none⟩ = some (.int .i64 x.p) ∧ w'.cell? ⟨w.heap.size, 2, none⟩ = some (.int .i64 x.f) ∧ w'.cell? ⟨w.heap.size, 3, none⟩ = some (.int .u8 x.b) ∧ w'.cell? ⟨b, 0, none⟩ = some (.int .i64 x.s) ∧ w'.cell? ⟨b, 1, none⟩ = some (.int .i64 x.p))
    ((refine s6 ?_ HX.out HY.out; first | ((repeat (first | exact Keep.refl _ _ | exact Keep.refl _ _ | refine Keep.drew ?_ | refine Keep.drewN ?_ _ | refine Keep.alloc ?_ _ | refine Keep.setNew ?_ (by omega) _)); done) | ((repeat (first | exact HK5.out | exact Keep.refl _ _ | refine Keep.drew ?_ | refine Keep.drewN ?_ _ | refine Keep.alloc ?_ _ | refine Keep.setNew ?_ (by omega) _)); done)))
    (first | (go_at_call 28; refine (of_any x _).mono ?_; rintro e w5 ⟨rfl, hk5⟩; have HK5 : Hid (Keep (fun _ => False) (w.alloc (.cells #[.int .i64 x.s, .int .i64 x.p, .int .i64 x.f, .int .u8 x.b] 31)) w5) := Keep.trans (by (repeat (first | exact Keep.refl _ _ | exact Keep.refl _ _ | refine Keep.drew ?_ | refine Keep.drewN ?_ _ | refine Keep.alloc ?_ _ | refine Keep.setNew ?_ (by omega) _)); done) hk5; clear hk5) | fail)
  all_goals
    go_wp2
    go_ret
    exact ⟨rfl, KB.out.trans HK5.out⟩

end Go.Proofs.Ytmbgebmhdofdaaa
