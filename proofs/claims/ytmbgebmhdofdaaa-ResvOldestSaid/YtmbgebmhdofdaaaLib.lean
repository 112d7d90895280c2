/- Plain lemmas on worlds: rows of integers and of structs, what a call keeps, owned footprints. -/
import Derived.WalkKit
import Derived.WalkSpells
import Derived.WalkLawsBesides
import Derived.Lib.Hide
import Derived.Laws.AppendOwnNone
import Derived.Deep.AppendLies
set_option linter.unusedVariables false
set_option linter.unusedSimpArgs false
namespace Go.Own
open Go.RowKit

theorem ret_int {k : IntKind} {a b : Int} (h : a = b) : Ending.returned (.int k a) = .returned (.int k b) := by rw [h]
theorem ret_bool {a b : Bool} (h : a = b) : Ending.returned (.bool a) = .returned (.bool b) := by rw [h]

/-- A row of ints as a block. -/
def rowI (L : List Int) : Obj := .cells (L.map (Value.int .i64)).toArray 3 (0, 0)

/-- What a call may have changed: the blocks of S alone, of those that were there. -/
structure Keep (S : Nat → Prop) (w w' : World) : Prop where
  os : w'.os = w.os
  tape : w'.tape = w.tape
  output : w'.output = w.output
  size : w.heap.size ≤ w'.heap.size
  block : ∀ k, k < w.heap.size → ¬ S k → w'.heap[k]? = w.heap[k]?

theorem Keep.refl (S : Nat → Prop) (w : World) : Keep S w w := ⟨rfl, rfl, rfl, Nat.le_refl _, fun _ _ _ => rfl⟩
theorem Keep.trans {S : Nat → Prop} {a b c : World} (h : Keep S a b) (k : Keep S b c) : Keep S a c :=
  ⟨k.os.trans h.os, k.tape.trans h.tape, k.output.trans h.output, Nat.le_trans h.size k.size,
    fun i hi hs => (k.block i (Nat.lt_of_lt_of_le hi h.size) hs).trans (h.block i hi hs)⟩
theorem Keep.mono {S T : Nat → Prop} {a b : World} (h : Keep S a b) (hs : ∀ k, k < a.heap.size → S k → T k) : Keep T a b :=
  ⟨h.os, h.tape, h.output, h.size, fun i hi ht => h.block i hi fun k => ht (hs i hi k)⟩
theorem Keep.drew {S : Nat → Prop} {a w : World} (h : Keep S a w) : Keep S a w.drew := ⟨h.os, h.tape, h.output, h.size, h.block⟩
theorem Keep.setCell {S : Nat → Prop} {a w : World} (h : Keep S a w) {p : Addr} (hp : p.block < a.heap.size → S p.block) (u : Value) : Keep S a (w.setCell p u) :=
  ⟨h.os, h.tape, h.output, by simp [World.setCell]; exact h.size, fun k hk hs => by
    rw [Below.heap_setCell w p u k (by intro e; subst e; exact hs (hp hk))]; exact h.block k hk hs⟩
theorem Keep.setNew {S : Nat → Prop} {a w : World} {b i : Nat} (h : Keep S a w) (hb : a.heap.size ≤ b) (u : Value) : Keep S a (w.setCell ⟨b, i, none⟩ u) :=
  h.setCell (fun hp => absurd hp (Nat.not_lt.2 hb)) u
theorem Keep.alloc {S : Nat → Prop} {a w : World} (h : Keep S a w) (o : Obj) : Keep S a (w.alloc o) :=
  ⟨h.os, h.tape, h.output, by have := h.size; simp; omega, fun k hk hs => by
    rw [Below.heap_alloc w o k (Nat.lt_of_lt_of_le hk h.size)]; exact h.block k hk hs⟩

theorem block_lt {w : World} {b : Nat} {o : Obj} (h : w.heap[b]? = some o) : b < w.heap.size := by
  rw [Array.getElem?_eq_some_iff] at h; exact h.1

theorem cell_block {w : World} {b i : Nat} {c : Array Value} {e : TypeId} {z : Nat × Nat} (h : w.heap[b]? = some (.cells c e z)) :
    w.cell? ⟨b, i, none⟩ = c[i]? := by simp [World.cell?, h]
theorem frozen_block {w : World} {b i : Nat} {c : Array Value} {e : TypeId} (h : w.heap[b]? = some (.cells c e (0, 0))) :
    w.frozen? ⟨b, i, none⟩ = false := by simp [World.frozen?, h]
/-- The i-th number of a list. -/
def gi (L : List Int) (i : Nat) : Int := L.getD i 0
theorem gi_eq {L : List Int} {i : Nat} (h : i < L.length) : gi L i = L[i] := by simp [gi, h]
theorem gi_set_eq {L : List Int} {i : Nat} (h : i < L.length) (v : Int) : gi (L.set i v) i = v := by simp [gi, h]
theorem gi_set_ne {L : List Int} {i j : Nat} (h : i ≠ j) (v : Int) : gi (L.set i v) j = gi L j := by simp [gi, h]
theorem ext_gi {L M : List Int} (hl : L.length = M.length) (h : ∀ i, i < L.length → gi L i = gi M i) : L = M := by
  refine List.ext_getElem hl fun i h1 h2 => ?_
  have := h i h1; rwa [gi_eq h1, gi_eq h2] at this
theorem cell_rowI {w : World} {q i : Nat} {L : List Int} (h : w.heap[q]? = some (rowI L)) (hi : i < L.length) :
    w.cell? ⟨q, i, none⟩ = some (.int .i64 (gi L i)) := by
  rw [cell_block h]; simp [gi, hi]
theorem frozen_rowI {w : World} {q i : Nat} {L : List Int} (h : w.heap[q]? = some (rowI L)) : w.frozen? ⟨q, i, none⟩ = false := frozen_block h
theorem heap_setCell_ne {w : World} {a : Addr} {u : Value} {k : Nat} (h : k ≠ a.block) : (w.setCell a u).heap[k]? = w.heap[k]? :=
  Below.heap_setCell w a u k h
theorem heap_setCell_eq {w : World} {b i : Nat} {u : Value} {c : Array Value} {e : TypeId} {z : Nat × Nat} (h : w.heap[b]? = some (.cells c e z)) :
    (w.setCell ⟨b, i, none⟩ u).heap[b]? = some (.cells (c.setIfInBounds i u) e z) := by
  simp [World.setCell, Array.getElem?_modify, h]
theorem cell_setCell_ne {w : World} {a b : Addr} {v : Value} (h : a ≠ b) : (w.setCell a v).cell? b = w.cell? b := by
  apply World.cell?_setCell_other; exact h
theorem cell_setCell_off {w : World} {p i j : Nat} {v : Value} (h : i ≠ j) : (w.setCell ⟨p, i, none⟩ v).cell? ⟨p, j, none⟩ = w.cell? ⟨p, j, none⟩ :=
  cell_setCell_ne fun e => h (congrArg Addr.off e)
theorem cell_setCell_blk {w : World} {p q i j : Nat} {v : Value} (h : p ≠ q) : (w.setCell ⟨p, i, none⟩ v).cell? ⟨q, j, none⟩ = w.cell? ⟨q, j, none⟩ :=
  cell_setCell_ne fun e => h (congrArg Addr.block e)
theorem heap_setCell_rowI {w : World} {q i : Nat} {L : List Int} {v : Int} (h : w.heap[q]? = some (rowI L)) :
    (w.setCell ⟨q, i, none⟩ (.int .i64 v)).heap[q]? = some (rowI (L.set i v)) := by
  unfold rowI at h; rw [heap_setCell_eq h]; simp [rowI, List.map_set]

theorem Keep.cell {S : Nat → Prop} {w w' : World} (h : Keep S w w') {b i : Nat} (hb : b < w.heap.size) (hs : ¬ S b) : w'.cell? ⟨b, i, none⟩ = w.cell? ⟨b, i, none⟩ :=
  World.cell?_of_block (w := w) (h.block b hb hs)
theorem Keep.frozen {S : Nat → Prop} {w w' : World} (h : Keep S w w') {b i : Nat} (hb : b < w.heap.size) (hs : ¬ S b) : w'.frozen? ⟨b, i, none⟩ = w.frozen? ⟨b, i, none⟩ :=
  World.frozen?_of_block (w := w) (h.block b hb hs)
theorem Keep.own {S : Nat → Prop} {w w' : World} (h : Keep S w w') {B e size n : Nat} {v : Value} {xs : List Value} (ho : w.ownsRow B e size v n xs)
    (hs : ∀ k, v.ownBlock = some k → ¬ S k) : w'.ownsRow B e size v n xs := by
  refine ⟨ho.1, ?_⟩
  rcases ho.2 with hn | ⟨g, cap, cur, rfl, hb, hgg, rest⟩
  · exact .inl hn
  · refine .inr ⟨g, cap, cur, rfl, hb, ?_, rest⟩
    rw [h.block g (block_lt hgg) (hs g rfl)]; exact hgg
theorem ownsRow_base {w : World} {B C e size n : Nat} {v : Value} {xs : List Value} (ho : w.ownsRow B e size v n xs) (h : ∀ k, v.ownBlock = some k → C ≤ k) : w.ownsRow C e size v n xs := by
  refine ⟨ho.1, ?_⟩
  rcases ho.2 with hn | ⟨g, cap, cur, rfl, hb, hgg, rest⟩
  · exact .inl hn
  · exact .inr ⟨g, cap, cur, rfl, h g rfl, hgg, rest⟩
theorem ownsRow_full {w : World} {B e size g n : Nat} {xs : List Value} (h : w.ownsRow B e size (.slice (some ⟨g, 0, none⟩) n n) n xs) :
    w.heap[g]? = some (.cells xs.toArray e (0, 0)) ∧ B ≤ g := by
  rcases h.2 with ⟨h', _⟩ | ⟨g', cap, cur, h', hB, hg, _, _, hcs, htake⟩
  · simp at h'
  · simp only [Value.slice.injEq, Option.some.injEq, Addr.mk.injEq, and_true, true_and] at h'
    obtain ⟨rfl, rfl⟩ := h'
    rw [List.take_of_length_le (by rw [Array.length_toList, hcs]; exact Nat.le_refl _)] at htake
    subst htake
    exact ⟨by simpa using hg, hB⟩
theorem Keep.grown {S : Nat → Prop} {a w w' : World} {row : Option Nat} (h : Keep S a w) (hg : w.grownBy w' row) (hr : ∀ k, row = some k → k < a.heap.size → S k) : Keep S a w' :=
  ⟨hg.os.trans h.os, hg.tape.trans h.tape, hg.output.trans h.output, Nat.le_trans h.size hg.size, fun k hk hs =>
    (hg.block k (Nat.lt_of_lt_of_le hk h.size) (fun e => hs (hr k e.symm hk))).trans (h.block k hk hs)⟩


theorem heap_alloc_at (w : World) (o : Obj) (n : Nat) : (w.alloc o).heap[n]? = if n = w.heap.size then some o else w.heap[n]? := by
  show (w.heap.push o)[n]? = _
  rw [Array.getElem?_push]
theorem heap_drewN (w : World) (n : Nat) : (w.drewN n).heap = w.heap := rfl
theorem heap_drew (w : World) : w.drew.heap = w.heap := rfl
theorem Keep.drewN {S : Nat → Prop} {a w : World} (h : Keep S a w) (n : Nat) : Keep S a (w.drewN n) := ⟨h.os, h.tape, h.output, h.size, h.block⟩
theorem Keep.below {w w' : World} (h : Keep (fun _ => False) w w') : Below w.heap.size w w' := ⟨h.os, h.tape, h.output, h.size, fun k hk => h.block k hk id⟩
theorem Keep.of_heap {S : Nat → Prop} {w w' : World} (h : w'.heap = w.heap) (ho : w'.os = w.os) (ht : w'.tape = w.tape) (hu : w'.output = w.output) : Keep S w w' :=
  ⟨ho, ht, hu, by rw [h]; exact Nat.le_refl _, fun k _ _ => by rw [h]⟩
/-- What is new may be forgotten. -/
theorem Keep.fresh {S : Nat → Prop} {w w' : World} {B : Nat} (h : Keep S w w') (hS : ∀ x, S x → B ≤ x) (hB : w.heap.size ≤ B) : Keep (fun _ => False) w w' :=
  h.mono fun k hk hs => by have := hS k hs; omega
theorem block_lt_cell {w : World} {b o : Nat} {x : Value} (h : w.cell? ⟨b, o, none⟩ = some x) : b < w.heap.size := World.block_lt_of_cell? w _ h
theorem cell_alloc_lt {w : World} {o : Obj} {g i : Nat} (h : g < w.heap.size) : (w.alloc o).cell? ⟨g, i, none⟩ = w.cell? ⟨g, i, none⟩ := by
  apply World.cell?_alloc_past; exact h
theorem own_form {w : World} {B e size n : Nat} {v : Value} {xs : List Value} (h : w.ownsRow B e size v n xs) (hn : 0 < n) :
    ∃ g cap, v = .slice (some ⟨g, 0, none⟩) n cap ∧ B ≤ g ∧ n ≤ cap ∧ g < w.heap.size := by
  rcases h.2 with ⟨_, h0⟩ | ⟨g, cap, cur, rfl, hB, hg, hc, _⟩
  · omega
  · exact ⟨g, cap, rfl, hB, hc, block_lt hg⟩
theorem own_any {w : World} {B e size n : Nat} {v : Value} {xs : List Value} (h : w.ownsRow B e size v n xs) :
    (v = .slice none 0 0 ∧ n = 0 ∧ xs = []) ∨ ∃ g cap, v = .slice (some ⟨g, 0, none⟩) n cap ∧ B ≤ g ∧ n ≤ cap ∧ cap ≤ maxLen ∧ g < w.heap.size := by
  rcases h.2 with ⟨rfl, rfl⟩ | ⟨g, cap, cur, rfl, hB, hg, hc, hm, _⟩
  · exact .inl ⟨rfl, rfl, List.eq_nil_of_length_eq_zero (by simpa using h.1)⟩
  · exact .inr ⟨g, cap, rfl, hB, hc, hm, block_lt hg⟩
theorem own_slice {w : World} {B e size n : Nat} {v : Value} {xs : List Value} (h : w.ownsRow B e size v n xs) : ∃ a l c, v = .slice a l c := by
  rcases h.2 with ⟨rfl, _⟩ | ⟨g, cap, cur, rfl, _⟩
  · exact ⟨_, _, _, rfl⟩
  · exact ⟨_, _, _, rfl⟩
theorem own_heap {w w' : World} {B e size n : Nat} {v : Value} {xs : List Value} (h : w.ownsRow B e size v n xs) (e' : w'.heap = w.heap) : w'.ownsRow B e size v n xs :=
  ⟨h.1, by rw [e']; exact h.2⟩

/-- One cell of an old block, and that it is not frozen, in a later world. -/
theorem keepS2 {S : Nat → Prop} {w W : World} {p i : Nat} {v : Value} (h : Keep S w W) (hp : p < w.heap.size) (hs : ¬ S p) (hc : w.cell? ⟨p, i, none⟩ = some v) (fz : w.frozen? ⟨p, i, none⟩ = false) :
    W.cell? ⟨p, i, none⟩ = some v ∧ W.frozen? ⟨p, i, none⟩ = false := ⟨(h.cell hp hs).trans hc, (h.frozen hp hs).trans fz⟩

/-! ### Slices that are read, and the law on append -/
/-- The slice v reads as m elements of k cells each: cs. -/
def Reads (w : World) (v : Value) (m k : Nat) (cs : List Value) : Prop :=
  cs.length = m * k ∧ ((v = .slice none 0 0 ∧ m = 0) ∨ ∃ ad c, v = .slice (some ad) m c ∧ ∀ j u, cs[j]? = some u → w.cell? (ad.add j) = some u)

/-- The program's tables on a slice type and its elements. -/
structure ET (P : Program) (t e : TypeId) (z : Value) (k bytes : Nat) : Prop where
  ht : P.underlying t = some (.slice e)
  hi : (P.info? e).map (fun i => (i.zero, i.size, i.bytes)) = some (some z, k, bytes)
  hz : z.cells.size = k
  hk : 0 < k

theorem Reads.own {w : World} {B e k n : Nat} {v : Value} {xs : List Value} (h : w.ownsRow B e k v n xs) : Reads w v n k xs := by
  refine ⟨h.1, ?_⟩
  rcases h.2 with ⟨rfl, rfl⟩ | ⟨g, cap, cur, rfl, hB, hg, hc, _⟩
  · exact .inl ⟨rfl, rfl⟩
  · exact .inr ⟨⟨g, 0, none⟩, cap, rfl, h.cells rfl⟩
theorem Reads.keep {S : Nat → Prop} {w w' : World} {v : Value} {m k : Nat} {cs : List Value} (h : Reads w v m k cs) (hk : Keep S w w') (hs : ∀ a l c, v = .slice (some a) l c → ¬ S a.block) : Reads w' v m k cs := by
  refine ⟨h.1, ?_⟩
  rcases h.2 with h0 | ⟨ad, c, rfl, h1⟩
  · exact .inl h0
  · refine .inr ⟨ad, c, rfl, fun j u hj => ?_⟩
    have h2 := h1 j u hj
    have e : (ad.add j).block = ad.block := by unfold Addr.add; split <;> rfl
    exact (World.cell?_of_block (hk.block _ (World.block_lt_of_cell? w _ h2) (by rw [e]; exact hs ad _ _ rfl))).trans h2

/-- A block whose cells are known, as one element. -/
theorem Reads.new {w : World} {b e k : Nat} {cs : List Value} {z : Nat × Nat} (h : w.heap[b]? = some (.cells cs.toArray e z)) (hl : cs.length = k) (c : Nat) : Reads w (.slice (some ⟨b, 0, none⟩) 1 c) 1 k cs :=
  ⟨by omega, .inr ⟨_, c, rfl, fun j u hj => by rw [Addr.add_lit, Nat.zero_add, cell_block h]; simpa using hj⟩⟩

section
variable {P : Program} {t e : TypeId} {z : Value} {k bytes : Nat}

/-- append(s, x...): s the call's own, x whatever can be read. -/
theorem wp_app (T : ET P t e z k bytes) {w : World} {o : Oper} {a : Act} {Kk : Act → World → Prop} {Q : Exit → Act → World → Prop} (s x : Operand)
    (ho : o.op = .call { callee := .builtin .append, args := #[s, x], argTypes := #[t, t] })
    (B : Nat) (v : Value) (n : Nat) (xs : List Value) (hs : a.eval s = v) (hown : w.ownsRow B e k v n xs)
    (vx : Value) (m : Nat) (cs : List Value) (hx : a.eval x = vx) (hr : Reads w vx m k cs) (h1 : ∀ u ∈ cs, u.oneCell' = true)
    (h63 : n + m ≤ maxLen) (hby : (n + m) * bytes ≤ 140737488355328) (hB : B ≤ w.heap.size)
    (K : ∀ v' w', w'.ownsRow B e k v' (n + m) (xs ++ cs) → w.grownBy w' v.ownBlock → Kk (a.put o.dst v') w') : o.wp P a w Kk Q := by
  obtain ⟨i, hi, hz0, hz1, hz2⟩ := info_parts T.hi
  rcases hr with ⟨hl, ⟨rfl, rfl⟩ | ⟨ad, c, rfl, hc⟩⟩
  · have e0 : cs = [] := List.eq_nil_of_length_eq_zero (by simpa using hl)
    subst e0
    have hrun := run_append_owned_none (P := P) (w := w) B t o.type e i k T.ht hi v n xs hown
    unfold Oper.wp
    simp [execOp, ho, resolve, invoke, builtin, hs, hx, hrun, Result.andThen]
    exact K _ _ (by simpa using hown) ⟨rfl, rfl, rfl, Nat.le_refl _, fun _ _ _ => rfl⟩
  · exact wp_append_own w s x t ho B e i z k bytes T.ht hi hz0 hz1 hz2 T.hz T.hk v n xs hs hown ad m c cs hx hl hc h1 h63 hby hB fun v' w' h2 h3 _ => K v' w' h2 h3

theorem wpl_app (T : ET P t e z k bytes) {w : World} {ops : Array Oper} {rest : List Oper} {o : Oper} {a : Act} {Q : Exit → Act → World → Prop} (hgd : o.guard = none) (s x : Operand)
    (ho : o.op = .call { callee := .builtin .append, args := #[s, x], argTypes := #[t, t] })
    (B : Nat) (v : Value) (n : Nat) (xs : List Value) (hs : a.eval s = v) (hown : w.ownsRow B e k v n xs)
    (vx : Value) (m : Nat) (cs : List Value) (hx : a.eval x = vx) (hr : Reads w vx m k cs) (h1 : ∀ u ∈ cs, u.oneCell' = true)
    (h63 : n + m ≤ maxLen) (hby : (n + m) * bytes ≤ 140737488355328) (hB : B ≤ w.heap.size)
    (K : ∀ v' w', w'.ownsRow B e k v' (n + m) (xs ++ cs) → w.grownBy w' v.ownBlock → wpList P ops Q rest (a.put o.dst v') w') : wpList P ops Q (o :: rest) a w :=
  wpList_plain hgd fun _ hK => wp_app T s x ho B v n xs hs hown vx m cs hx hr h1 h63 hby hB fun v' w' h2 h3 => hK _ _ (K v' w' h2 h3)

/-- .. as one step of a region that draws its order. -/
theorem step_app (T : ET P t e z k bytes) {w : World} {ops : Array Oper} {o : Oper} {a : Act} {Kk : Act → World → Prop} {Q : Exit → Act → World → Prop} {E : Prop} (hgd : o.guard = none) (s x : Operand)
    (ho : o.op = .call { callee := .builtin .append, args := #[s, x], argTypes := #[t, t] })
    (B : Nat) (v : Value) (n : Nat) (xs : List Value) (hs : a.eval s = v) (hown : w.ownsRow B e k v n xs)
    (vx : Value) (m : Nat) (cs : List Value) (hx : a.eval x = vx) (hr : Reads w vx m k cs) (h1 : ∀ u ∈ cs, u.oneCell' = true)
    (h63 : n + m ≤ maxLen) (hby : (n + m) * bytes ≤ 140737488355328) (hB : B ≤ w.heap.size)
    (K : ∀ v' w', w'.ownsRow B e k v' (n + m) (xs ++ cs) → w.grownBy w' v.ownBlock → Kk (a.put o.dst v') w') :
    if Region.wanted o (yielded ops a.tmps) = true then Oper.wp P o a w Kk Q else E := by
  have hw : Region.wanted o (yielded ops a.tmps) = true := by simp [Region.wanted, hgd]
  rw [if_pos hw]
  exact wp_app T s x ho B v n xs hs hown vx m cs hx hr h1 h63 hby hB K

/-- The empty literal []T{}. -/
theorem own_empty {w : World} (B : Nat) (hB : B ≤ w.heap.size) : (w.alloc (.cells #[] e)).ownsRow B e k (.slice (some ⟨w.heap.size, 0, none⟩) 0 0) 0 [] := by
  have := World.ownsRow_lit (base := B) (e := e) (size := k) w #[] 0 hB (by decide) (by simp)
  simpa using this

/-- A block without cells, as an empty slice of one's own. -/
theorem own_empty_at {w : World} {B N : Nat} (h : w.heap[N]? = some (.cells #[] e (0, 0))) (hB : B ≤ N) : w.ownsRow B e k (.slice (some ⟨N, 0, none⟩) 0 0) 0 [] :=
  ⟨by simp, .inr ⟨N, 0, #[], rfl, hB, h, Nat.le_refl _, by decide, by simp, by simp⟩⟩

/-- make([]T, n). -/
theorem wpl_make (T : ET P t e z 1 bytes) {w : World} {ops : Array Oper} {rest : List Oper} {o : Oper} {a : Act} {Q : Exit → Act → World → Prop} (hgd : o.guard = none) (l c : Operand) (hop : o.op = Op.makeSlice t l c)
    (B : Nat) (n : Nat) (L C : Int) (hl : a.eval l = .int .i64 L) (hc : a.eval c = .int .i64 C) (hL : L = (n : Int)) (hC : C = (n : Int)) (hn : n ≤ 1048576) (hby : bytes ≤ 1024) (e1 : z.cells = #[z]) (hB : B ≤ w.heap.size)
    (K : ∀ w', w'.ownsRow B e 1 (.slice (some ⟨w.heap.size, 0, none⟩) n n) n (List.replicate n z) → w.grownBy w' none → wpList P ops Q rest (a.put o.dst (.slice (some ⟨w.heap.size, 0, none⟩) n n)) w') :
    wpList P ops Q (o :: rest) a w := by
  obtain ⟨i, hi, hz0, hz1, hz2⟩ := info_parts T.hi
  refine wpList_make_full w hgd l c t hop B e i z 1 T.ht hi hz0 hz1 .i64 .i64 L C n hl hc hL hC ?_ (by unfold maxLen; omega) hB fun w' h1 h2 => K w' ?_ h2
  · rw [hz2]; exact Nat.le_trans (Nat.mul_le_mul hby hn) (by decide)
  · rw [e1, Nat.mul_one, toList_madeCells_one] at h1
    exact h1
end


/-! ### Rows of structs -/
/-- How an element is laid out: its cells. -/
structure Enc (α : Type) where
  c : α → List Value
  k : Nat
  hk : 0 < k
  len : ∀ x, (c x).length = k
  one : ∀ x u, u ∈ c x → u.oneCell' = true

section
variable {α : Type} (E : Enc α)
def Enc.cs (L : List α) : List Value := L.flatMap E.c
theorem Enc.cs_nil : E.cs [] = [] := rfl
theorem Enc.cs_append (L M : List α) : E.cs (L ++ M) = E.cs L ++ E.cs M := List.flatMap_append
theorem Enc.cs_one (x : α) : E.cs [x] = E.c x := by simp [Enc.cs]
theorem Enc.cs_length (L : List α) : (E.cs L).length = L.length * E.k := by
  induction L with
  | nil => simp [Enc.cs]
  | cons x L ih => simp only [Enc.cs, List.flatMap_cons, List.length_append, List.length_cons, E.len] at *; rw [ih, Nat.succ_mul]; omega
theorem Enc.cs_one_cell (L : List α) : ∀ u ∈ E.cs L, u.oneCell' = true := fun u hu => by
  obtain ⟨x, _, h⟩ := List.mem_flatMap.1 hu
  exact E.one x u h
theorem Enc.cs_at {L : List α} {i j : Nat} (hi : i < L.length) (hj : j < E.k) : (E.cs L)[i * E.k + j]? = (E.c L[i])[j]? := by
  have e : L = L.take i ++ (L[i] :: L.drop (i + 1)) := by rw [← List.drop_eq_getElem_cons hi, List.take_append_drop]
  have h : E.cs L = E.cs (L.take i) ++ (E.c L[i] ++ E.cs (L.drop (i + 1))) := by
    conv => lhs; rw [e]
    rw [E.cs_append]; rfl
  have hl : (E.cs (L.take i)).length = i * E.k := by rw [E.cs_length, List.length_take, Nat.min_eq_left (by omega)]
  rw [h, List.getElem?_append_right (by omega), hl, List.getElem?_append_left (by rw [E.len]; omega)]
  congr 1; omega
theorem Enc.cs_take (L : List α) (i : Nat) : (E.cs L).take (i * E.k) = E.cs (L.take i) := by
  by_cases h : i ≤ L.length
  · have e : E.cs L = E.cs (L.take i) ++ E.cs (L.drop i) := by rw [← E.cs_append, List.take_append_drop]
    rw [e, List.take_left' (by rw [E.cs_length, List.length_take, Nat.min_eq_left h])]
  · rw [List.take_of_length_le (by rw [E.cs_length]; exact Nat.mul_le_mul_right _ (by omega)), List.take_of_length_le (by omega)]
theorem Enc.cs_drop (L : List α) (i : Nat) : (E.cs L).drop (i * E.k) = E.cs (L.drop i) := by
  by_cases h : i ≤ L.length
  · have e : E.cs L = E.cs (L.take i) ++ E.cs (L.drop i) := by rw [← E.cs_append, List.take_append_drop]
    rw [e, List.drop_left' (by rw [E.cs_length, List.length_take, Nat.min_eq_left h])]
  · rw [List.drop_of_length_le (by rw [E.cs_length]; exact Nat.mul_le_mul_right _ (by omega)), List.drop_of_length_le (by omega)]; rfl
theorem Enc.cs_set {L : List α} {i j : Nat} {x : α} {u : Value} (hi : i < L.length) (hj : j < E.k) (hx : E.c x = (E.c L[i]).set j u) : E.cs (L.set i x) = (E.cs L).set (i * E.k + j) u := by
  have e : L = L.take i ++ (L[i] :: L.drop (i + 1)) := by rw [← List.drop_eq_getElem_cons hi, List.take_append_drop]
  have e2 : L.set i x = L.take i ++ (x :: L.drop (i + 1)) := by rw [List.set_eq_take_append_cons_drop, if_pos hi]
  have h : E.cs L = E.cs (L.take i) ++ (E.c L[i] ++ E.cs (L.drop (i + 1))) := by
    conv => lhs; rw [e]
    rw [E.cs_append]; rfl
  have h2 : E.cs (L.set i x) = E.cs (L.take i) ++ (E.c x ++ E.cs (L.drop (i + 1))) := by rw [e2, E.cs_append]; rfl
  have hl : (E.cs (L.take i)).length = i * E.k := by rw [E.cs_length, List.length_take, Nat.min_eq_left (by omega)]
  rw [h2, h, List.set_append_right _ _ (by omega), hl, List.set_append_left _ _ (by rw [E.len]; omega), hx]
  congr 3; omega

/-- The slice v is the call's own, and holds L. -/
def OwnL (w : World) (B : Nat) (e : TypeId) (v : Value) (L : List α) : Prop := w.ownsRow B e E.k v L.length (E.cs L)

variable {E} {w w' : World} {B : Nat} {e : TypeId} {v : Value} {L : List α}
theorem OwnL.nil (w : World) (B : Nat) (e : TypeId) : OwnL E w B e (.slice none 0 0) [] := World.ownsRow_nil w B e E.k
theorem OwnL.cell {g cap n i j : Nat} (h : OwnL E w B e (.slice (some ⟨g, 0, none⟩) n cap) L) (hi : i < L.length) (hj : j < E.k) :
    w.cell? ⟨g, i * E.k + j, none⟩ = (E.c L[i])[j]? := by
  have hn : n = L.length := by
    rcases h.2 with ⟨h', _⟩ | ⟨_, _, _, h', _⟩ <;> simp at h'
    exact h'.2.1
  subst hn
  have hlt : i * E.k + j < L.length * E.k := Nat.lt_of_lt_of_le (Nat.add_lt_add_left hj _) (by rw [← Nat.succ_mul]; exact Nat.mul_le_mul_right _ hi)
  rw [World.ownsRow.cellAt h _ hlt, E.cs_at hi hj]
theorem OwnL.frozen {g cap n : Nat} (h : OwnL E w B e (.slice (some ⟨g, 0, none⟩) n cap) L) (i : Nat) : w.frozen? ⟨g, i, none⟩ = false := by
  have hn : n = L.length := by
    rcases h.2 with ⟨h', _⟩ | ⟨_, _, _, h', _⟩ <;> simp at h'
    exact h'.2.1
  subst hn
  exact World.ownsRow.frozenAt h i
theorem OwnL.form (h : OwnL E w B e v L) (hn : L ≠ []) : ∃ g cap, v = .slice (some ⟨g, 0, none⟩) L.length cap ∧ B ≤ g ∧ L.length ≤ cap ∧ g < w.heap.size :=
  own_form h (by cases L with | nil => exact absurd rfl hn | cons _ _ => simp)
theorem OwnL.any (h : OwnL E w B e v L) : (v = .slice none 0 0 ∧ L = []) ∨ ∃ g cap, v = .slice (some ⟨g, 0, none⟩) L.length cap ∧ B ≤ g ∧ L.length ≤ cap ∧ cap ≤ maxLen ∧ g < w.heap.size := by
  rcases own_any h with ⟨h1, h2, _⟩ | h1
  · exact .inl ⟨h1, List.eq_nil_of_length_eq_zero h2⟩
  · exact .inr h1
theorem OwnL.slice (h : OwnL E w B e v L) : ∃ a c, v = .slice a L.length c ∧ (L ≠ [] → ∃ g, a = some ⟨g, 0, none⟩) := by
  rcases h.any with ⟨rfl, rfl⟩ | ⟨g, cap, rfl, _⟩
  · exact ⟨none, 0, rfl, fun h => absurd rfl h⟩
  · exact ⟨_, _, rfl, fun _ => ⟨g, rfl⟩⟩
theorem OwnL.reads (h : OwnL E w B e v L) : Reads w v L.length E.k (E.cs L) := Reads.own h
theorem OwnL.keep {S : Nat → Prop} (h : OwnL E w B e v L) (k : Keep S w w') (hs : ∀ x, v.ownBlock = some x → ¬ S x) : OwnL E w' B e v L := k.own h hs
theorem OwnL.heap (h : OwnL E w B e v L) (e' : w'.heap = w.heap) : OwnL E w' B e v L := own_heap h e'
theorem OwnL.base {C : Nat} (h : OwnL E w B e v L) (hC : ∀ x, v.ownBlock = some x → C ≤ x) : OwnL E w C e v L := ownsRow_base h hC
theorem OwnL.lt (h : OwnL E w B e v L) : ∀ x, v.ownBlock = some x → B ≤ x ∧ x < w.heap.size := World.ownsRow.lt h
theorem OwnL.set {g cap n i j : Nat} {x : α} {u : Value} (h : OwnL E w B e (.slice (some ⟨g, 0, none⟩) n cap) L) (hi : i < L.length) (hj : j < E.k) (hx : E.c x = (E.c L[i]).set j u) :
    OwnL E (w.setCell ⟨g, i * E.k + j, none⟩ u) B e (.slice (some ⟨g, 0, none⟩) n cap) (L.set i x) := by
  have hn : n = L.length := by
    rcases h.2 with ⟨h', _⟩ | ⟨_, _, _, h', _⟩ <;> simp at h'
    exact h'.2.1
  subst hn
  unfold OwnL
  rw [List.length_set, E.cs_set hi hj hx]
  exact (World.ownsRow.stored h _ u).1
/-- x[:i]. -/
theorem OwnL.lo {g cap n i c : Nat} (h : OwnL E w B e (.slice (some ⟨g, 0, none⟩) n cap) L) (hi : i ≤ L.length) : Reads w (.slice (some ⟨g, 0, none⟩) i c) i E.k (E.cs (L.take i)) := by
  refine ⟨by rw [E.cs_length, List.length_take, Nat.min_eq_left hi], .inr ⟨_, c, rfl, fun j u hj => ?_⟩⟩
  rw [← E.cs_take, List.getElem?_take] at hj
  split at hj
  · exact World.ownsRow.cells h rfl j u hj
  · cases hj
/-- x[i:]. -/
theorem OwnL.hi {g cap n i m c o : Nat} (h : OwnL E w B e (.slice (some ⟨g, 0, none⟩) n cap) L) (hi : i ≤ L.length) (hm : m = L.length - i) (ho : o = i * E.k) : Reads w (.slice (some ⟨g, o, none⟩) m c) m E.k (E.cs (L.drop i)) := by
  subst hm; subst ho
  refine ⟨by rw [E.cs_length, List.length_drop], .inr ⟨_, c, rfl, fun j u hj => ?_⟩⟩
  rw [← E.cs_drop, List.getElem?_drop] at hj
  have := World.ownsRow.cells h rfl _ u hj
  rw [Addr.add_lit, Nat.zero_add] at this
  rw [Addr.add_lit]; exact this
theorem Reads.zero (ad : Option Addr) (c k : Nat) (hc : ad = none → c = 0) : Reads w (.slice ad 0 c) 0 k [] := by
  refine ⟨by simp, ?_⟩
  cases ad with
  | none => rw [hc rfl]; exact .inl ⟨rfl, rfl⟩
  | some ad => exact .inr ⟨ad, c, rfl, fun j u hj => by simp at hj⟩
end


section
variable {α : Type} {E : Enc α} {w : World} {B : Nat} {P : Program} {t e : TypeId} {z : Value} {bytes : Nat} {v : Value} {L : List α}
theorem ET.elem {k : Nat} (T : ET P t e z k bytes) : P.elem t = e ∧ ∀ W, (sizeOf e).run P W = .ok k W := by
  obtain ⟨i, hi, hz0, hz1, hz2⟩ := info_parts T.hi
  have h1 : P.elem t = e := by simp [Program.elem, T.ht]
  exact ⟨h1, fun W => by simp [sizeOf, typeInfo, hi, hz1]⟩
/-- v[i:], whatever its shape. -/
theorem sl_hi (T : ET P t e z E.k bytes) (h : OwnL E w B e v L) {i : Nat} (hi : i ≤ L.length) (x : Int) (hx : x = i) :
    ∃ vx, (∀ W, (Instr.slice t v (some (.int .i64 x)) none none).run P W = .ok vx W) ∧ Reads w vx (L.length - i) E.k (E.cs (L.drop i)) := by
  subst hx
  obtain ⟨e1, e2⟩ := T.elem
  have hu : P.underlying t = some (.slice (P.elem t)) := by rw [e1]; exact T.ht
  rcases h.any with ⟨rfl, rfl⟩ | ⟨g, cap, rfl, hB, hc, hm, hg⟩
  · obtain rfl : i = 0 := by simpa using hi
    refine ⟨.slice none 0 0, fun W => ?_, ?_⟩
    · rw [run_slice_l W t none 0 0 hu .i64 _ (by omega) (by omega), e1, e2]; simp [sliced, Result.andThen]
    · exact Reads.zero (w := w) none 0 E.k (fun _ => rfl)
  · refine ⟨.slice (some (if cap = i then ⟨g, 0, none⟩ else (⟨g, 0, none⟩ : Addr).add (i * E.k))) (L.length - i) (cap - i), fun W => ?_, ?_⟩
    · rw [run_slice_l W t _ _ _ hu .i64 _ (by omega) (by omega), e1, e2]
      simp only [sliced, Result.andThen, Int.toNat_natCast]
      split <;> simp
    · by_cases hci : cap = i
      · have e0 : L.length - i = 0 := by omega
        rw [if_pos hci, e0, List.drop_of_length_le (by omega)]
        exact Reads.zero _ _ _ (by simp)
      · rw [if_neg hci, Addr.add_lit, Nat.zero_add]
        exact h.hi hi rfl rfl
/-- v[:i], whatever its shape. -/
theorem sl_lo (T : ET P t e z E.k bytes) (h : OwnL E w B e v L) {i : Nat} (hi : i ≤ L.length) :
    ∃ vx, (∀ W, (Instr.slice t v none (some (.int .i64 (i : Int))) none).run P W = .ok vx W) ∧ Reads w vx i E.k (E.cs (L.take i)) := by
  obtain ⟨e1, e2⟩ := T.elem
  have hu : P.underlying t = some (.slice (P.elem t)) := by rw [e1]; exact T.ht
  rcases h.any with ⟨rfl, rfl⟩ | ⟨g, cap, rfl, hB, hc, hm, hg⟩
  · obtain rfl : i = 0 := by simpa using hi
    refine ⟨.slice none 0 0, fun W => ?_, ?_⟩
    · rw [run_slice_h W t none 0 0 hu .i64 _ (by omega) (by omega), e1, e2]; simp [sliced, Result.andThen]
    · exact Reads.zero (w := w) none 0 E.k (fun _ => rfl)
  · refine ⟨.slice (some ⟨g, 0, none⟩) i cap, fun W => ?_, h.lo hi⟩
    rw [run_slice_h W t _ _ _ hu .i64 _ (by omega) (by omega), e1, e2]
    simp only [sliced, Result.andThen, Int.toNat_natCast, Nat.zero_mul, Nat.sub_zero]
    split <;> simp [Addr.add]
end

end Go.Own
