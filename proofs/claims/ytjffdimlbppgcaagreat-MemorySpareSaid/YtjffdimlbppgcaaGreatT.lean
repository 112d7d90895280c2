/- Buddy: the sort of the blocks. -/
import Derived.Test.YtjffdimlbppgcaaGreatS
import Derived.Test.YtjffdimlbppgcaaGreatM
import Derived.Shelf.SlSortCmp.WholeK
set_option linter.unusedVariables false
set_option linter.unusedSimpArgs false
namespace Go.Proofs.YtjffdimlbppgcaaGreat
open Go.RowKit Go.Own
structure Bk where
  f : Int
  o : Int
  deriving DecidableEq
def bkE : Enc Bk where
  c := fun x => [.int .i64 x.f, .int .i64 x.o]
  k := 2
  hk := by decide
  len := fun _ => rfl
  one := fun x u hu => by simp at hu; rcases hu with rfl | rfl <;> rfl
theorem info55 : (Tryz.prog.info? 96).map (fun i => (i.zero, i.size, i.bytes)) = some (some (.agg #[.int .i64 0, .int .i64 0]), 2, 16) := by kernel_rfl
theorem et43 : ET Tryz.prog 64 96 (.agg #[.int .i64 0, .int .i64 0]) 2 16 := ⟨Tryz.underlying64, info55, rfl, by decide⟩
theorem bk_cells {w : World} {B : Nat} {g n cap i : Nat} {L : List Bk} (h : OwnL bkE w B 96 (.slice (some ⟨g, 0, none⟩) n cap) L) (hi : i < L.length) :
    w.cell? ⟨g, i * 2, none⟩ = some (.int .i64 L[i].f) ∧ w.cell? ⟨g, i * 2 + 1, none⟩ = some (.int .i64 L[i].o) :=
  ⟨OwnL.cell (j := 0) h hi (by decide), OwnL.cell (j := 1) h hi (by decide)⟩
def fine (x : Bk) : Prop := 0 ≤ x.f ∧ x.f < 5000
open Go.Sort

/-- A block that may be. -/
abbrev Ff := { x : Bk // fine x }
instance : Inhabited Ff := ⟨⟨⟨0, 0⟩, by unfold fine; simp⟩⟩
def encF (x : Ff) : List Value := bkE.c x.1
def cmpF (x y : Ff) : Int := x.1.f - y.1.f
def leF (a b : Bk) : Prop := a.f ≤ b.f
theorem ltF (x y : Ff) : ltOf cmpF x y = true ↔ x.1.f < y.1.f := by
  unfold ltOf cmpF
  rw [decide_eq_true_eq]
  omega
theorem swoF : SWO (ltOf cmpF) where
  irrefl x := by rw [← Bool.not_eq_true, ltF]; omega
  trans x y z h1 h2 := by rw [ltF] at *; omega
  ntrans x y z h1 h2 := by rw [← Bool.not_eq_true, ltF] at *; omega

set_option maxHeartbeats 1000000 in
theorem cmp_any (x y : Ff) (W : World) : Calls Tryz.prog 99 #[.agg (encF x).toArray, .agg (encF y).toArray] W fun e w' => e = .returned (.int .i64 (cmpF x y)) ∧ ∃ q os', w' = grow (W.drewN q) os' := by
  obtain ⟨x, hx⟩ := x
  obtain ⟨y, hy⟩ := y
  have HC : Hid (cmpF ⟨x, hx⟩ ⟨y, hy⟩ = x.f - y.f) := rfl
  obtain ⟨x1, x2⟩ := hx
  obtain ⟨y1, y2⟩ := hy
  show Calls Tryz.prog 99 #[.agg #[.int .i64 x.f, .int .i64 x.o], .agg #[.int .i64 y.f, .int .i64 y.o]] W _
  have a1 : IntKind.i64.wrap (x.f - y.f) = x.f - y.f := IntWalk.i64_in _ (by omega)
  go_enter Tryz.func99, Tryz.ntmps99
  go_wp2
  go_ret
  exact ⟨ret_int HC.out.symm, 0, _, by rw [alloc_eq_grow, alloc_eq_grow, grow_grow]; rfl⟩

/-! ### The row in the sort's words and in mine -/
theorem flatF (d : Array Ff) : (flatK encF 2 d).toList = bkE.cs (d.toList.map Subtype.val) := by
  have hs : (flatK encF 2 d).size = d.size * 2 := by simp
  apply List.ext_getElem?
  intro t
  by_cases ht : t < d.size * 2
  · have h1 := get_flatK encF 2 d t ht
    have hd : t / 2 < d.size := by omega
    have hd2 : t / 2 < (d.toList.map Subtype.val).length := by simpa using hd
    have h2 : (bkE.cs (d.toList.map Subtype.val))[t / 2 * bkE.k + t % 2]? = (bkE.c ((d.toList.map Subtype.val)[t / 2]'hd2))[t % 2]? := bkE.cs_at hd2 (Nat.mod_lt _ (by decide))
    have e : t / 2 * bkE.k + t % 2 = t := by show t / 2 * 2 + t % 2 = t; omega
    rw [e] at h2
    rw [h2, Array.getElem?_toList, Array.getElem?_eq_getElem (by omega)]
    rw [getElem!_pos _ t (by omega)] at h1
    rw [h1, getElem!_pos d (t / 2) hd]
    simp only [List.getElem_map, Array.getElem_toList]
    have h3 : t % 2 < (encF d[t / 2]).length := Nat.mod_lt _ (by decide)
    rw [getElem!_pos (encF d[t / 2]) (t % 2) h3]
    exact (List.getElem?_eq_getElem h3).symm
  · rw [List.getElem?_eq_none (by rw [Array.length_toList]; omega), List.getElem?_eq_none (by rw [bkE.cs_length]; simp; show d.size * 2 ≤ t; omega)]

theorem holdsF {w : World} {B g cap n : Nat} {d : Array Ff} (h : OwnL bkE w B 96 (.slice (some ⟨g, 0, none⟩) n cap) (d.toList.map Subtype.val)) : HoldsK encF 2 w g 0 d := by
  obtain ⟨cur, hn, hg, hc, hm, hl, ht, hB⟩ := h.block
  intro j hj
  have hs : (flatK encF 2 d).size = d.size * 2 := by simp
  rw [hs] at hj
  refine ⟨?_, by simp [World.frozen?, hg]⟩
  have h1 : (bkE.cs (d.toList.map Subtype.val))[j]? = some ((flatK encF 2 d)[j]!) := by
    rw [← flatF, Array.getElem?_toList, Array.getElem?_eq_getElem (by omega), getElem!_pos _ j (by omega)]
  rw [← ht, List.getElem?_take] at h1
  split at h1
  · rw [Nat.zero_add, cell_block hg]
    simpa using h1
  · cases h1

theorem ownF {w : World} {B g cap n m : Nat} {L : List Bk} {d' : Array Ff} {os : Array Obj} (h : OwnL bkE w B 96 (.slice (some ⟨g, 0, none⟩) n cap) L) (hs : d'.size = L.length) :
    OwnL bkE (sortWorldK encF 2 w g 0 m d' os) B 96 (.slice (some ⟨g, 0, none⟩) n cap) (d'.toList.map Subtype.val) := by
  obtain ⟨cur, hn, hg, hc, hm, hl, ht, hB⟩ := h.block
  have hk : bkE.k = 2 := rfl
  rw [hk] at hl
  refine OwnL.of_block (cur := (putCells id 0 (flatK encF 2 d') cur.toArray).toList) ?_ (by rw [hn]; simp [hs]) hc hm (by simp [putCells, hl, hk]) ?_ hB
  · have hgl := block_lt hg
    unfold sortWorldK grow putRowK putRow mapBlock Sort.ahead
    simp only
    rw [Array.getElem?_append_left (by simpa using hgl), Array.getElem?_modify, if_pos rfl, hg]
    simp [onCells]
  · rw [← flatF]
    have hfs : (flatK encF 2 d').size = d'.size * 2 := by simp
    apply List.ext_getElem?
    intro t
    rw [List.getElem?_take, List.length_map, Array.length_toList, hk]
    by_cases ht2 : t < d'.size * 2
    · rw [if_pos ht2, Array.getElem?_toList, Array.getElem?_toList]
      have htc : t < cur.toArray.size := by simp [hl]; omega
      simp only [putCells, Array.getElem?_mapIdx, Array.getElem?_eq_getElem htc, Option.map_some]
      rw [if_pos (by omega), Array.getElem?_eq_getElem (by omega), Nat.sub_zero, getElem!_pos _ t (by omega)]
      rfl
    · rw [if_neg ht2, Array.getElem?_toList, Array.getElem?_eq_none (by omega)]

theorem keepF (w : World) (g m : Nat) (d' : Array Ff) (os : Array Obj) : Keep (fun z => z = g) w (sortWorldK encF 2 w g 0 m d' os) :=
  ⟨rfl, rfl, rfl, by simp [sortWorldK, grow, putRowK, putRow, mapBlock, Sort.ahead], fun k hk hs => by
    unfold sortWorldK grow putRowK putRow mapBlock Sort.ahead
    simp only
    rw [Array.getElem?_append_left (by simpa using hk), Array.getElem?_modify, if_neg (fun e => hs e.symm)]⟩

def SortC (w : World) (B g cap : Nat) (L : List Bk) (e : Ending) (w' : World) : Prop :=
  e = .returned (.tuple #[]) ∧ ∃ L' : List Bk, L'.Perm L ∧ L'.Pairwise leF ∧ OwnL bkE w' B 96 (.slice (some ⟨g, 0, none⟩) L.length cap) L' ∧ Keep (fun z => z = g) w w'

theorem sort_any (B g cap : Nat) (L : List Bk) (hL : ∀ x, x ∈ L → fine x) (hl : L.length ≤ 20000) (w : World) (h : OwnL bkE w B 96 (.slice (some ⟨g, 0, none⟩) L.length cap) L) :
    Calls Tryz.prog 98 #[.slice (some ⟨g, 0, none⟩) L.length cap, .func (.func 99) #[] #[]] w (SortC w B g cap L) := by
  obtain ⟨d, hd⟩ : ∃ d : Array Ff, d.toList.map Subtype.val = L := ⟨(L.attach.map fun x => ⟨x.1, hL x.1 x.2⟩).toArray, by
    simp [List.map_map, Function.comp_def]⟩
  have hds : d.size = L.length := by rw [← hd]; simp
  have hH : HoldsK encF 2 w g 0 d := holdsF (by rw [hd]; exact h)
  have hgl : g < w.heap.size := (h.lt g rfl).2
  have eg : ∀ args w, (callFunc 99 args).run Tryz.prog w = .ok (.enter 99 args) w := enters_of Tryz.func99 (by kernel_rfl) rfl
  have hc := AnyQ.slices_SortFunc sortFl 2 Tryz.isAgg96 Tryz.sizeOf96 encF (fun x => bkE.len x.1) (fun x => bkE.one x.1) cmpF swoF 99 #[] g 0 cap d w eg (fun _ _ _ _ x y => cmp_any x y _) hH hgl (by omega)
  rw [hds] at hc
  refine Calls.mono (show Calls Tryz.prog 98 _ w _ from hc) ?_
  rintro e w' ⟨rfl, d', n, os, hp, hs, rfl⟩
  have hd's : d'.size = L.length := hp.1.trans hds
  refine ⟨rfl, d'.toList.map Subtype.val, ?_, ?_, ownF h hd's, keepF w g n d' os⟩
  · have h1 := hp.2.2
    rw [show L.length = d.size from hds.symm] at h1
    rw [Array.extract_size, show d.size = d'.size by omega, Array.extract_size] at h1
    rw [← hd]
    exact h1.map _
  · rw [List.pairwise_map, List.pairwise_iff_getElem]
    intro i j hi hj hij
    have h1 := hs i j (Nat.zero_le _) hij (by simpa [hd's] using hj)
    simp only [Array.length_toList] at hi hj
    rw [getElem!_pos d' i hi, getElem!_pos d' j hj] at h1
    simp only [Array.getElem_toList]
    have h2 : ¬ ltOf cmpF d'[j] d'[i] = true := by rw [h1]; simp
    rw [ltF] at h2
    unfold leF
    omega

end Go.Proofs.YtjffdimlbppgcaaGreat
