/- Plain lemmas on worlds: rows of integers, what a call keeps. -/
import Derived.WalkKit
import Derived.WalkSpells
import Derived.WalkLawsBesides
import Derived.Lib.Hide
namespace Go.Own
open Go.RowKit

theorem ret_int {k : IntKind} {a b : Int} (h : a = b) : Ending.returned (.int k a) = .returned (.int k b) := by rw [h]
theorem ret_bool {a b : Bool} (h : a = b) : Ending.returned (.bool a) = .returned (.bool b) := by rw [h]

/-- A row of ints as a block. -/
def rowI (L : List Int) : Obj := .cells (L.map (Value.int .i64)).toArray 3 (0, 0)

/-- What a call may have changed: the blocks of S alone, of those that were there. -/
structure Keep (S : Nat → Prop) (w w' : World) : Prop where
  os : w'.os = w.os
  tape : w'.tape = w.tape
  output : w'.output = w.output
  size : w.heap.size ≤ w'.heap.size
  block : ∀ k, k < w.heap.size → ¬ S k → w'.heap[k]? = w.heap[k]?

theorem Keep.refl (S : Nat → Prop) (w : World) : Keep S w w := ⟨rfl, rfl, rfl, Nat.le_refl _, fun _ _ _ => rfl⟩
theorem Keep.trans {S : Nat → Prop} {a b c : World} (h : Keep S a b) (k : Keep S b c) : Keep S a c :=
  ⟨k.os.trans h.os, k.tape.trans h.tape, k.output.trans h.output, Nat.le_trans h.size k.size,
    fun i hi hs => (k.block i (Nat.lt_of_lt_of_le hi h.size) hs).trans (h.block i hi hs)⟩
theorem Keep.mono {S T : Nat → Prop} {a b : World} (h : Keep S a b) (hs : ∀ k, k < a.heap.size → S k → T k) : Keep T a b :=
  ⟨h.os, h.tape, h.output, h.size, fun i hi ht => h.block i hi fun k => ht (hs i hi k)⟩
theorem Keep.drew {S : Nat → Prop} {a w : World} (h : Keep S a w) : Keep S a w.drew := ⟨h.os, h.tape, h.output, h.size, h.block⟩
theorem Keep.setCell {S : Nat → Prop} {a w : World} (h : Keep S a w) {p : Addr} (hp : p.block < a.heap.size → S p.block) (u : Value) : Keep S a (w.setCell p u) :=
  ⟨h.os, h.tape, h.output, by simp [World.setCell]; exact h.size, fun k hk hs => by
    rw [Below.heap_setCell w p u k (by intro e; subst e; exact hs (hp hk))]; exact h.block k hk hs⟩
theorem Keep.alloc {S : Nat → Prop} {a w : World} (h : Keep S a w) (o : Obj) : Keep S a (w.alloc o) :=
  ⟨h.os, h.tape, h.output, by have := h.size; simp; omega, fun k hk hs => by
    rw [Below.heap_alloc w o k (Nat.lt_of_lt_of_le hk h.size)]; exact h.block k hk hs⟩

theorem block_lt {w : World} {b : Nat} {o : Obj} (h : w.heap[b]? = some o) : b < w.heap.size := by
  rw [Array.getElem?_eq_some_iff] at h; exact h.1

theorem cell_block {w : World} {b i : Nat} {c : Array Value} {e : TypeId} {z : Nat × Nat} (h : w.heap[b]? = some (.cells c e z)) :
    w.cell? ⟨b, i, none⟩ = c[i]? := by simp [World.cell?, h]
theorem frozen_block {w : World} {b i : Nat} {c : Array Value} {e : TypeId} (h : w.heap[b]? = some (.cells c e (0, 0))) :
    w.frozen? ⟨b, i, none⟩ = false := by simp [World.frozen?, h]
/-- The i-th number of a list. -/
def gi (L : List Int) (i : Nat) : Int := L.getD i 0
theorem gi_eq {L : List Int} {i : Nat} (h : i < L.length) : gi L i = L[i] := by simp [gi, h]
theorem gi_set_eq {L : List Int} {i : Nat} (h : i < L.length) (v : Int) : gi (L.set i v) i = v := by simp [gi, h]
theorem gi_set_ne {L : List Int} {i j : Nat} (h : i ≠ j) (v : Int) : gi (L.set i v) j = gi L j := by simp [gi, h]
theorem ext_gi {L M : List Int} (hl : L.length = M.length) (h : ∀ i, i < L.length → gi L i = gi M i) : L = M := by
  refine List.ext_getElem hl fun i h1 h2 => ?_
  have := h i h1; rwa [gi_eq h1, gi_eq h2] at this
theorem cell_rowI {w : World} {q i : Nat} {L : List Int} (h : w.heap[q]? = some (rowI L)) (hi : i < L.length) :
    w.cell? ⟨q, i, none⟩ = some (.int .i64 (gi L i)) := by
  rw [cell_block h]; simp [gi, hi]
theorem frozen_rowI {w : World} {q i : Nat} {L : List Int} (h : w.heap[q]? = some (rowI L)) : w.frozen? ⟨q, i, none⟩ = false := frozen_block h
theorem heap_setCell_ne {w : World} {a : Addr} {u : Value} {k : Nat} (h : k ≠ a.block) : (w.setCell a u).heap[k]? = w.heap[k]? :=
  Below.heap_setCell w a u k h
theorem heap_setCell_eq {w : World} {b i : Nat} {u : Value} {c : Array Value} {e : TypeId} {z : Nat × Nat} (h : w.heap[b]? = some (.cells c e z)) :
    (w.setCell ⟨b, i, none⟩ u).heap[b]? = some (.cells (c.setIfInBounds i u) e z) := by
  simp [World.setCell, Array.getElem?_modify, h]
theorem cell_setCell_ne {w : World} {a b : Addr} {v : Value} (h : a ≠ b) : (w.setCell a v).cell? b = w.cell? b := by
  apply World.cell?_setCell_other; exact h
theorem cell_setCell_off {w : World} {p i j : Nat} {v : Value} (h : i ≠ j) : (w.setCell ⟨p, i, none⟩ v).cell? ⟨p, j, none⟩ = w.cell? ⟨p, j, none⟩ :=
  cell_setCell_ne fun e => h (congrArg Addr.off e)
theorem cell_setCell_blk {w : World} {p q i j : Nat} {v : Value} (h : p ≠ q) : (w.setCell ⟨p, i, none⟩ v).cell? ⟨q, j, none⟩ = w.cell? ⟨q, j, none⟩ :=
  cell_setCell_ne fun e => h (congrArg Addr.block e)
theorem heap_setCell_rowI {w : World} {q i : Nat} {L : List Int} {v : Int} (h : w.heap[q]? = some (rowI L)) :
    (w.setCell ⟨q, i, none⟩ (.int .i64 v)).heap[q]? = some (rowI (L.set i v)) := by
  unfold rowI at h; rw [heap_setCell_eq h]; simp [rowI, List.map_set]

theorem Keep.cell {S : Nat → Prop} {w w' : World} (h : Keep S w w') {b i : Nat} (hb : b < w.heap.size) (hs : ¬ S b) : w'.cell? ⟨b, i, none⟩ = w.cell? ⟨b, i, none⟩ :=
  World.cell?_of_block (w := w) (h.block b hb hs)
theorem Keep.frozen {S : Nat → Prop} {w w' : World} (h : Keep S w w') {b i : Nat} (hb : b < w.heap.size) (hs : ¬ S b) : w'.frozen? ⟨b, i, none⟩ = w.frozen? ⟨b, i, none⟩ :=
  World.frozen?_of_block (w := w) (h.block b hb hs)
theorem Keep.own {S : Nat → Prop} {w w' : World} (h : Keep S w w') {B e size n : Nat} {v : Value} {xs : List Value} (ho : w.ownsRow B e size v n xs)
    (hs : ∀ k, v.ownBlock = some k → ¬ S k) : w'.ownsRow B e size v n xs := by
  refine ⟨ho.1, ?_⟩
  rcases ho.2 with hn | ⟨g, cap, cur, rfl, hb, hgg, rest⟩
  · exact .inl hn
  · refine .inr ⟨g, cap, cur, rfl, hb, ?_, rest⟩
    rw [h.block g (block_lt hgg) (hs g rfl)]; exact hgg
theorem ownsRow_base {w : World} {B C e size n : Nat} {v : Value} {xs : List Value} (ho : w.ownsRow B e size v n xs) (h : ∀ k, v.ownBlock = some k → C ≤ k) : w.ownsRow C e size v n xs := by
  refine ⟨ho.1, ?_⟩
  rcases ho.2 with hn | ⟨g, cap, cur, rfl, hb, hgg, rest⟩
  · exact .inl hn
  · exact .inr ⟨g, cap, cur, rfl, h g rfl, hgg, rest⟩
theorem ownsRow_full {w : World} {B e size g n : Nat} {xs : List Value} (h : w.ownsRow B e size (.slice (some ⟨g, 0, none⟩) n n) n xs) :
    w.heap[g]? = some (.cells xs.toArray e (0, 0)) ∧ B ≤ g := by
  rcases h.2 with ⟨h', _⟩ | ⟨g', cap, cur, h', hB, hg, _, _, hcs, htake⟩
  · simp at h'
  · simp only [Value.slice.injEq, Option.some.injEq, Addr.mk.injEq, and_true, true_and] at h'
    obtain ⟨rfl, rfl⟩ := h'
    rw [List.take_of_length_le (by rw [Array.length_toList, hcs]; exact Nat.le_refl _)] at htake
    subst htake
    exact ⟨by simpa using hg, hB⟩
theorem Keep.grown {S : Nat → Prop} {a w w' : World} {row : Option Nat} (h : Keep S a w) (hg : w.grownBy w' row) (hr : ∀ k, row = some k → k < a.heap.size → S k) : Keep S a w' :=
  ⟨hg.os.trans h.os, hg.tape.trans h.tape, hg.output.trans h.output, Nat.le_trans h.size hg.size, fun k hk hs =>
    (hg.block k (Nat.lt_of_lt_of_le hk h.size) (fun e => hs (hr k e.symm hk))).trans (h.block k hk hs)⟩

end Go.Own
