/- Gather: the object. -/
import Derived.Test.YtibcfglfcoljgaaRows
import Derived.Test.YtibcfglfcoljgaaLib
import Derived.Test.YtibcfglfcoljgaaReg
import Derived.KernelRfl
import Derived.Laws.ResultCell
import Derived.Deep.RegionHeld3
import Derived.Deep.RegionLaw
import Derived.Deep.RegionLawGrows
import Derived.IntWalk
import Derived.Deep.QuietTactic
import Derived.BigQuiet
import Derived.OwnWalk
set_option linter.unusedVariables false
set_option linter.unusedSimpArgs false
namespace Go.Proofs.Ytibcfglfcoljgaa
open Go.RowKit Go.Own

structure Fl where
  s : Int
  p : Int
  n : Int
  deriving DecidableEq
structure Bk where
  f : Int
  o : Int
  deriving DecidableEq
def flE : Enc Fl where
  c := fun x => [.int .i64 x.s, .int .i64 x.p, .int .i64 x.n]
  k := 3
  hk := by decide
  len := fun _ => rfl
  one := fun x u hu => by simp at hu; rcases hu with rfl | rfl | rfl <;> rfl
def bkE : Enc Bk where
  c := fun x => [.int .i64 x.f, .int .i64 x.o]
  k := 2
  hk := by decide
  len := fun _ => rfl
  one := fun x u hu => by simp at hu; rcases hu with rfl | rfl <;> rfl
theorem info40 : (Try.prog.info? 40).map (fun i => (i.zero, i.size, i.bytes)) = some (some (.agg #[.int .i64 0, .int .i64 0, .int .i64 0]), 3, 24) := by kernel_rfl
theorem info48 : (Try.prog.info? 48).map (fun i => (i.zero, i.size, i.bytes)) = some (some (.agg #[.int .i64 0, .int .i64 0]), 2, 16) := by kernel_rfl
theorem et28 : ET Try.prog 28 40 (.agg #[.int .i64 0, .int .i64 0, .int .i64 0]) 3 24 := ⟨Try.underlying28, info40, rfl, by decide⟩
theorem et29 : ET Try.prog 29 48 (.agg #[.int .i64 0, .int .i64 0]) 2 16 := ⟨Try.underlying29, info48, rfl, by decide⟩

/-- The object at p: most 1, the pages L, the blocks Q, the rounds. -/
structure RepG (w : World) (B p : Nat) (v u : Value) (L : List Fl) (Q : List Bk) (r : Int) : Prop where
  hp : w.heap[p]? = some (.cells #[.int .i64 1, v, u, .int .i64 r] 59 (0, 0))
  hv : OwnL flE w B 40 v L
  hu : OwnL bkE w B 48 u Q
  nv : v.ownBlock ≠ some p
  nu : u.ownBlock ≠ some p
  nn : ∀ x, v.ownBlock = some x → u.ownBlock ≠ some x
  hl : L.length ≤ 200
  hq : Q.length ≤ 200

section
variable {w : World} {B p : Nat} {v u : Value} {L : List Fl} {Q : List Bk} {r : Int} (h : RepG w B p v u L Q r)
include h
theorem RepG.cs : w.cell? ⟨p, 0, none⟩ = some (.int .i64 1) ∧ w.cell? ⟨p, 1, none⟩ = some v ∧ w.cell? ⟨p, 2, none⟩ = some u ∧ w.cell? ⟨p, 3, none⟩ = some (.int .i64 r) := by simp [cell_block h.hp]
theorem RepG.keep {S : Nat → Prop} {w' : World} (k : Keep S w w') (hp : ¬ S p) (hv : ∀ x, v.ownBlock = some x → ¬ S x) (hu : ∀ x, u.ownBlock = some x → ¬ S x) : RepG w' B p v u L Q r :=
  ⟨(k.block p (block_lt h.hp) hp).trans h.hp, h.hv.keep k hv, h.hu.keep k hu, h.nv, h.nu, h.nn, h.hl, h.hq⟩
theorem RepG.keep0 {w' : World} (k : Keep (fun _ => False) w w') : RepG w' B p v u L Q r := h.keep k id (fun _ _ => id) (fun _ _ => id)
end

theorem fl_cells {w : World} {B : Nat} {g n cap i : Nat} {L : List Fl} (h : OwnL flE w B 40 (.slice (some ⟨g, 0, none⟩) n cap) L) (hi : i < L.length) :
    w.cell? ⟨g, i * 3, none⟩ = some (.int .i64 L[i].s) ∧ w.cell? ⟨g, i * 3 + 1, none⟩ = some (.int .i64 L[i].p) ∧ w.cell? ⟨g, i * 3 + 1 + 1, none⟩ = some (.int .i64 L[i].n) :=
  ⟨OwnL.cell (j := 0) h hi (by decide), OwnL.cell (j := 1) h hi (by decide), OwnL.cell (j := 2) h hi (by decide)⟩
theorem bk_cells {w : World} {B : Nat} {g n cap i : Nat} {L : List Bk} (h : OwnL bkE w B 48 (.slice (some ⟨g, 0, none⟩) n cap) L) (hi : i < L.length) :
    w.cell? ⟨g, i * 2, none⟩ = some (.int .i64 L[i].f) ∧ w.cell? ⟨g, i * 2 + 1, none⟩ = some (.int .i64 L[i].o) :=
  ⟨OwnL.cell (j := 0) h hi (by decide), OwnL.cell (j := 1) h hi (by decide)⟩

theorem ins_small (a : Option Addr) (n c : Nat) (hn : n ≤ 1) (fv : Value) (w : World) : Calls Try.prog 31 #[.slice a n c, .int .i64 0, .int .i64 n, fv] w fun e w' => e = .returned (.tuple #[]) ∧ w = w' := by
  have hn' : (n : Int) ≤ 1 := by omega
  go_enter Try.func31, Try.ntmps31
  go_wp2
  refine wp_loop_once ?_
  go_wp2
  go_end0
  exact ⟨rfl, rfl⟩

set_option maxHeartbeats 400000 in
theorem pdq_small (a : Option Addr) (n c : Nat) (hn : n ≤ 1) (m : Int) (fv : Value) (w : World) : Calls Try.prog 28 #[.slice a n c, .int .i64 0, .int .i64 n, .int .i64 m, fv] w fun e w' => e = .returned (.tuple #[]) ∧ w = w' := by
  have hn' : (n : Int) ≤ 1 := by omega
  go_enter Try.func28, Try.ntmps28
  go_wp2
  refine wp_loop_once ?_
  go_wp2_with (go_at_call 31; go_loud (refine (ins_small a n c hn _ _).mono ?_; rintro e w1 ⟨rfl, rfl⟩))
  exact bodyPost_ret (results_none rfl _ _ _) rfl ⟨rfl, rfl⟩

set_option maxRecDepth 100000 in
set_option maxHeartbeats 1000000 in
theorem len64 (n : Nat) (hn : n ≤ 1) (w : World) : Calls Try.prog 40 #[.int .u64 n] w fun e w' => (∃ m, e = .returned (.int .i64 m)) ∧ w = w' := by
  have hc : n = 0 ∨ n = 1 := by omega
  rcases hc with rfl | rfl
  all_goals
    go_enter Try.func40, Try.ntmps40
    go_wp2
    go_ret
    exact ⟨⟨_, rfl⟩, rfl⟩

set_option maxHeartbeats 400000 in
theorem len0 (n : Nat) (hn : n ≤ 1) (w : World) : Calls Try.prog 29 #[.int .u64 n] w fun e w' => (∃ m, e = .returned (.int .i64 m)) ∧ w = w' := by
  go_enter Try.func29, Try.ntmps29
  go_wp2_with (go_at_call 40; go_loud (refine (len64 n hn _).mono ?_; rintro e w1 ⟨⟨m, rfl⟩, rfl⟩))
  go_ret
  exact ⟨⟨_, rfl⟩, rfl⟩

set_option maxHeartbeats 400000 in
theorem sort_small (a : Option Addr) (n c : Nat) (hn : n ≤ 1) (fv : Value) (w : World) : Calls Try.prog 22 #[.slice a n c, fv] w fun e w' => e = .returned (.tuple #[]) ∧ w = w' := by
  have hn' : (n : Int) ≤ 1 := by omega
  have hw1 : IntKind.u64.wrap (n : Int) = (n : Int) := by
    have hc : n = 0 ∨ n = 1 := by omega
    rcases hc with rfl | rfl <;> decide
  go_enter Try.func22, Try.ntmps22
  go_wp2_with (first | (go_at_call 29; go_loud (refine (len0 n hn _).mono ?_; rintro e w1 ⟨⟨m, rfl⟩, rfl⟩)) | (go_at_call 28; go_loud (refine (pdq_small a n c hn m _ _).mono ?_; rintro e w1 ⟨rfl, rfl⟩)))
  go_end0
  exact ⟨rfl, rfl⟩


set_option maxHeartbeats 400000 in
theorem new_one (B : Nat) (w : World) (hB : B ≤ w.heap.size) : Calls Try.prog 15 #[.int .i64 1] w fun e w' => ∃ p, e = .returned (.tuple #[.pointer (some ⟨p, 0, none⟩), .int .i64 0]) ∧ RepG w' B p (.slice none 0 0) (.slice none 0 0) [] [] 0 ∧ w.heap.size ≤ p ∧ Keep (fun _ => False) w w' := by
  go_enter Try.func15, Try.ntmps15
  go_wp2
  go_ret2
  exact ⟨w.heap.size, rfl, ⟨heap_alloc_new w _, OwnL.nil _ _ _, OwnL.nil _ _ _, by simp [Value.ownBlock], by simp [Value.ownBlock], by simp [Value.ownBlock], by simp, by simp⟩, Nat.le_refl _, (Keep.refl _ _).alloc _⟩

set_option maxHeartbeats 400000 in
theorem pages_nil (s y n : Int) (w : World) : Calls Try.prog 17 #[.pointer none, .int .i64 s, .int .i64 y, .int .i64 n] w fun e w' => e = .returned (.int .i64 1) ∧ Keep (fun _ => False) w w' := by
  go_enter Try.func17, Try.ntmps17
  go_wp2
  go_ret
  exact ⟨rfl, (by (repeat (first | exact Keep.refl _ _ | exact Keep.refl _ _ | refine Keep.drew ?_ | refine Keep.drewN ?_ _ | refine Keep.alloc ?_ _ | refine Keep.setNew ?_ (by omega) _)); done)⟩
set_option maxHeartbeats 400000 in
theorem frames_nil (f o : Int) (w : World) : Calls Try.prog 18 #[.pointer none, .agg #[.int .i64 f, .int .i64 o]] w fun e w' => e = .returned (.int .i64 1) ∧ Keep (fun _ => False) w w' := by
  go_enter Try.func18, Try.ntmps18
  go_wp2
  go_ret
  exact ⟨rfl, (by (repeat (first | exact Keep.refl _ _ | exact Keep.refl _ _ | refine Keep.drew ?_ | refine Keep.drewN ?_ _ | refine Keep.alloc ?_ _ | refine Keep.setNew ?_ (by omega) _)); done)⟩
set_option maxHeartbeats 400000 in
theorem full_nil (w : World) : Calls Try.prog 20 #[.pointer none] w fun e w' => e = .returned (.bool false) ∧ Keep (fun _ => False) w w' := by
  go_enter Try.func20, Try.ntmps20
  go_wp2
  go_quiet (fail)
  go_wp2
  go_ret
  exact ⟨rfl, (by (repeat (first | exact Keep.refl _ _ | exact Keep.refl _ _ | refine Keep.drew ?_ | refine Keep.drewN ?_ _ | refine Keep.alloc ?_ _ | refine Keep.setNew ?_ (by omega) _)); done)⟩
set_option maxHeartbeats 400000 in
theorem take_nil (w : World) : Calls Try.prog 10 #[.pointer none] w fun e w' => e = .returned (.tuple #[.slice none 0 0, .slice none 0 0]) ∧ Keep (fun _ => False) w w' := by
  go_enter Try.func10, Try.ntmps10
  go_wp2
  go_quiet (fail)
  go_wp2
  go_ret2
  exact ⟨rfl, (by (repeat (first | exact Keep.refl _ _ | exact Keep.refl _ _ | refine Keep.drew ?_ | refine Keep.drewN ?_ _ | refine Keep.alloc ?_ _ | refine Keep.setNew ?_ (by omega) _)); done)⟩
set_option maxHeartbeats 400000 in
theorem rounds_nil (w : World) : Calls Try.prog 14 #[.pointer none] w fun e w' => e = .returned (.int .i64 0) ∧ w = w' := by
  go_enter Try.func14, Try.ntmps14
  go_wp2
  go_ret
  exact ⟨rfl, rfl⟩

set_option maxHeartbeats 400000 in
theorem rounds_any (B p : Nat) (v u : Value) (L : List Fl) (Q : List Bk) (r : Int) (w : World) (hR : RepG w B p v u L Q r) : Calls Try.prog 14 #[.pointer (some ⟨p, 0, none⟩)] w fun e w' => e = .returned (.int .i64 r) ∧ w = w' := by
  obtain ⟨c0, c1, c2, c3⟩ := hR.cs
  go_enter Try.func14, Try.ntmps14
  go_wp2
  go_ret
  exact ⟨rfl, rfl⟩

set_option maxHeartbeats 400000 in
theorem full_one (B p : Nat) (v u : Value) (L : List Fl) (b : Bk) (r : Int) (w : World) (hR : RepG w B p v u L [b] r) : Calls Try.prog 20 #[.pointer (some ⟨p, 0, none⟩)] w fun e w' => e = .returned (.bool true) ∧ Keep (fun _ => False) w w' := by
  obtain ⟨c0, c1, c2, c3⟩ := hR.cs
  obtain ⟨a, c, rfl, -⟩ := hR.hu.slice
  go_enter Try.func20, Try.ntmps20
  go_wp2
  go_quiet (fail)
  go_wp2
  go_ret
  exact ⟨rfl, (by (repeat (first | exact Keep.refl _ _ | exact Keep.refl _ _ | refine Keep.drew ?_ | refine Keep.drewN ?_ _ | refine Keep.alloc ?_ _ | refine Keep.setNew ?_ (by omega) _)); done)⟩

set_option maxHeartbeats 1000000 in
theorem take_one (B p : Nat) (v u : Value) (x : Fl) (b : Bk) (w : World) (hR : RepG w B p v u [x] [b] 0) : Calls Try.prog 10 #[.pointer (some ⟨p, 0, none⟩)] w fun e w' => e = .returned (.tuple #[v, u]) ∧ RepG w' B p (.slice none 0 0) (.slice none 0 0) [] [] 1 ∧ Keep (fun z => z = p) w w' := by
  obtain ⟨c0, c1, c2, c3⟩ := hR.cs
  obtain ⟨a, c, rfl, -⟩ := hR.hv.slice
  obtain ⟨a2, c2', rfl, -⟩ := hR.hu.slice
  have f1 : w.frozen? ⟨p, 1, none⟩ = false := frozen_block hR.hp
  have f2 : w.frozen? ⟨p, 2, none⟩ = false := frozen_block hR.hp
  have f3 : w.frozen? ⟨p, 3, none⟩ = false := frozen_block hR.hp
  go_enter Try.func10, Try.ntmps10
  go_wp2
  go_quiet (fail)
  go_wp2
  go_quiet (fail)
  go_wp2_with (go_at_call 22; go_loud (refine (sort_small a 1 c (by omega) _ _).mono ?_; rintro e w1 ⟨rfl, rfl⟩))
  go_ret2
  refine ⟨rfl, ⟨?_, OwnL.nil _ _ _, OwnL.nil _ _ _, by simp [Value.ownBlock], by simp [Value.ownBlock], by simp [Value.ownBlock], by simp, by simp⟩, ?_⟩
  · rw [heap_setCell_eq (heap_setCell_eq (heap_setCell_eq (w := World.drewN _ _) hR.hp))]; rfl
  · exact ((((Keep.refl (fun z => z = p) w).drewN _).setCell (p := ⟨p, 1, none⟩) (fun _ => rfl) _).setCell (p := ⟨p, 2, none⟩) (fun _ => rfl) _).setCell (p := ⟨p, 3, none⟩) (fun _ => rfl) _

end Go.Proofs.Ytibcfglfcoljgaa
