/- Gather: the sort of the stretches. -/
import Derived.Test.YtibcfglfcoljgaaS
import Derived.Test.YtibcfglfcoljgaaF
import Derived.Shelf.SlSortCmp.WholeK
set_option linter.unusedVariables false
set_option linter.unusedSimpArgs false
namespace Go.Proofs.Ytibcfglfcoljgaa
open Go.RowKit Go.Own
open Go.Sort

/-- A stretch that may be. -/
abbrev Ff := { x : Fl // fine x }
instance : Inhabited Ff := ⟨⟨⟨0, 0, 1⟩, by unfold fine; simp⟩⟩
def encF (x : Ff) : List Value := flE.c x.1
def cmpF (x y : Ff) : Int := if x.1.s = y.1.s then x.1.p - y.1.p else if x.1.s < y.1.s then -1 else 1
def leF (a b : Fl) : Prop := a.s < b.s ∨ (a.s = b.s ∧ a.p ≤ b.p)
theorem ltF (x y : Ff) : ltOf cmpF x y = true ↔ x.1.s < y.1.s ∨ (x.1.s = y.1.s ∧ x.1.p < y.1.p) := by
  unfold ltOf cmpF
  rw [decide_eq_true_eq]
  split
  · omega
  · split <;> omega
theorem swoF : SWO (ltOf cmpF) where
  irrefl x := by rw [← Bool.not_eq_true, ltF]; omega
  trans x y z h1 h2 := by rw [ltF] at *; omega
  ntrans x y z h1 h2 := by rw [← Bool.not_eq_true, ltF] at *; omega

set_option maxHeartbeats 1000000 in
theorem cmp_any (x y : Ff) (W : World) : Calls Try.prog 23 #[.agg (encF x).toArray, .agg (encF y).toArray] W fun e w' => e = .returned (.int .i64 (cmpF x y)) ∧ ∃ q os', w' = grow (W.drewN q) os' := by
  obtain ⟨x, hx⟩ := x
  obtain ⟨y, hy⟩ := y
  obtain ⟨x1, x2, x3, x4⟩ := hx
  obtain ⟨y1, y2, y3, y4⟩ := hy
  show Calls Try.prog 23 #[.agg #[.int .i64 x.s, .int .i64 x.p, .int .i64 x.n], .agg #[.int .i64 y.s, .int .i64 y.p, .int .i64 y.n]] W _
  have b1 : x.p ≤ 4096 := by omega
  have b2 : y.p ≤ 4096 := by omega
  by_cases h : x.s = y.s
  · have h' : (x.s == y.s) = true := by simpa using h
    have HC : Hid (cmpF ⟨x, x1, x2, x3, x4⟩ ⟨y, y1, y2, y3, y4⟩ = x.p - y.p) := by unfold Hid cmpF; simp only; rw [if_pos h]
    clear h
    go_enter Try.func23, Try.ntmps23
    go_wp2
    go_ret
    exact ⟨ret_int HC.out.symm, 0, _, by rw [alloc_eq_grow, alloc_eq_grow, grow_grow]; rfl⟩
  · have h' : (x.s == y.s) = false := by simpa using h
    by_cases h2 : x.s < y.s
    · have HC : Hid (cmpF ⟨x, x1, x2, x3, x4⟩ ⟨y, y1, y2, y3, y4⟩ = -1) := by unfold Hid cmpF; simp only; rw [if_neg h, if_pos h2]
      clear h
      go_enter Try.func23, Try.ntmps23
      go_wp2
      go_ret
      exact ⟨ret_int HC.out.symm, 0, _, by rw [alloc_eq_grow, alloc_eq_grow, grow_grow]; rfl⟩
    · have HC : Hid (cmpF ⟨x, x1, x2, x3, x4⟩ ⟨y, y1, y2, y3, y4⟩ = 1) := by unfold Hid cmpF; simp only; rw [if_neg h, if_neg h2]
      clear h
      go_enter Try.func23, Try.ntmps23
      go_wp2
      go_ret
      exact ⟨ret_int HC.out.symm, 0, _, by rw [alloc_eq_grow, alloc_eq_grow, grow_grow]; rfl⟩

/-! ### The row in the sort's words and in mine -/
theorem flatF (d : Array Ff) : (flatK encF 3 d).toList = flE.cs (d.toList.map Subtype.val) := by
  have hs : (flatK encF 3 d).size = d.size * 3 := by simp
  apply List.ext_getElem?
  intro t
  by_cases ht : t < d.size * 3
  · have h1 := get_flatK encF 3 d t ht
    have hd : t / 3 < d.size := by omega
    have hd2 : t / 3 < (d.toList.map Subtype.val).length := by simpa using hd
    have h2 : (flE.cs (d.toList.map Subtype.val))[t / 3 * flE.k + t % 3]? = (flE.c ((d.toList.map Subtype.val)[t / 3]'hd2))[t % 3]? := flE.cs_at hd2 (Nat.mod_lt _ (by decide))
    have e : t / 3 * flE.k + t % 3 = t := by show t / 3 * 3 + t % 3 = t; omega
    rw [e] at h2
    rw [h2, Array.getElem?_toList, Array.getElem?_eq_getElem (by omega)]
    rw [getElem!_pos _ t (by omega)] at h1
    rw [h1, getElem!_pos d (t / 3) hd]
    simp only [List.getElem_map, Array.getElem_toList]
    have h3 : t % 3 < (encF d[t / 3]).length := Nat.mod_lt _ (by decide)
    rw [getElem!_pos (encF d[t / 3]) (t % 3) h3]
    exact (List.getElem?_eq_getElem h3).symm
  · rw [List.getElem?_eq_none (by rw [Array.length_toList]; omega), List.getElem?_eq_none (by rw [flE.cs_length]; simp; show d.size * 3 ≤ t; omega)]

theorem holdsF {w : World} {B g cap n : Nat} {d : Array Ff} (h : OwnL flE w B 40 (.slice (some ⟨g, 0, none⟩) n cap) (d.toList.map Subtype.val)) : HoldsK encF 3 w g 0 d := by
  obtain ⟨cur, hn, hg, hc, hm, hl, ht, hB⟩ := h.block
  intro j hj
  have hs : (flatK encF 3 d).size = d.size * 3 := by simp
  rw [hs] at hj
  refine ⟨?_, by simp [World.frozen?, hg]⟩
  have h1 : (flE.cs (d.toList.map Subtype.val))[j]? = some ((flatK encF 3 d)[j]!) := by
    rw [← flatF, Array.getElem?_toList, Array.getElem?_eq_getElem (by omega), getElem!_pos _ j (by omega)]
  rw [← ht, List.getElem?_take] at h1
  split at h1
  · rw [Nat.zero_add, cell_block hg]
    simpa using h1
  · cases h1

theorem ownF {w : World} {B g cap n m : Nat} {L : List Fl} {d' : Array Ff} {os : Array Obj} (h : OwnL flE w B 40 (.slice (some ⟨g, 0, none⟩) n cap) L) (hs : d'.size = L.length) :
    OwnL flE (sortWorldK encF 3 w g 0 m d' os) B 40 (.slice (some ⟨g, 0, none⟩) n cap) (d'.toList.map Subtype.val) := by
  obtain ⟨cur, hn, hg, hc, hm, hl, ht, hB⟩ := h.block
  have hk : flE.k = 3 := rfl
  rw [hk] at hl
  refine OwnL.of_block (cur := (putCells id 0 (flatK encF 3 d') cur.toArray).toList) ?_ (by rw [hn]; simp [hs]) hc hm (by simp [putCells, hl, hk]) ?_ hB
  · have hgl := block_lt hg
    unfold sortWorldK grow putRowK putRow mapBlock Sort.ahead
    simp only
    rw [Array.getElem?_append_left (by simpa using hgl), Array.getElem?_modify, if_pos rfl, hg]
    simp [onCells]
  · rw [← flatF]
    have hfs : (flatK encF 3 d').size = d'.size * 3 := by simp
    apply List.ext_getElem?
    intro t
    rw [List.getElem?_take, List.length_map, Array.length_toList, hk]
    by_cases ht2 : t < d'.size * 3
    · rw [if_pos ht2, Array.getElem?_toList, Array.getElem?_toList]
      have htc : t < cur.toArray.size := by simp [hl]; omega
      simp only [putCells, Array.getElem?_mapIdx, Array.getElem?_eq_getElem htc, Option.map_some]
      rw [if_pos (by omega), Array.getElem?_eq_getElem (by omega), Nat.sub_zero, getElem!_pos _ t (by omega)]
      rfl
    · rw [if_neg ht2, Array.getElem?_toList, Array.getElem?_eq_none (by omega)]

theorem keepF (w : World) (g m : Nat) (d' : Array Ff) (os : Array Obj) : Keep (fun z => z = g) w (sortWorldK encF 3 w g 0 m d' os) :=
  ⟨rfl, rfl, rfl, by simp [sortWorldK, grow, putRowK, putRow, mapBlock, Sort.ahead], fun k hk hs => by
    unfold sortWorldK grow putRowK putRow mapBlock Sort.ahead
    simp only
    rw [Array.getElem?_append_left (by simpa using hk), Array.getElem?_modify, if_neg (fun e => hs e.symm)]⟩

def SortC (w : World) (B g cap : Nat) (L : List Fl) (e : Ending) (w' : World) : Prop :=
  e = .returned (.tuple #[]) ∧ ∃ L' : List Fl, L'.Perm L ∧ L'.Pairwise leF ∧ OwnL flE w' B 40 (.slice (some ⟨g, 0, none⟩) L.length cap) L' ∧ Keep (fun z => z = g) w w'

theorem sort_any (B g cap : Nat) (L : List Fl) (hL : ∀ x, x ∈ L → fine x) (hl : L.length ≤ 1000) (w : World) (h : OwnL flE w B 40 (.slice (some ⟨g, 0, none⟩) L.length cap) L) :
    Calls Try.prog 22 #[.slice (some ⟨g, 0, none⟩) L.length cap, .func (.func 23) #[] #[]] w (SortC w B g cap L) := by
  obtain ⟨d, hd⟩ : ∃ d : Array Ff, d.toList.map Subtype.val = L := ⟨(L.attach.map fun x => ⟨x.1, hL x.1 x.2⟩).toArray, by
    simp [List.map_map, Function.comp_def]⟩
  have hds : d.size = L.length := by rw [← hd]; simp
  have hH : HoldsK encF 3 w g 0 d := holdsF (by rw [hd]; exact h)
  have hgl : g < w.heap.size := (h.lt g rfl).2
  have eg : ∀ args w, (callFunc 23 args).run Try.prog w = .ok (.enter 23 args) w := enters_of Try.func23 (by kernel_rfl) rfl
  have hc := AnyQ.slices_SortFunc sortFl 3 Try.isAgg40 Try.sizeOf40 encF (fun x => flE.len x.1) (fun x => flE.one x.1) cmpF swoF 23 #[] g 0 cap d w eg (fun _ _ _ _ x y => cmp_any x y _) hH hgl (by omega)
  rw [hds] at hc
  refine Calls.mono (show Calls Try.prog 22 _ w _ from hc) ?_
  rintro e w' ⟨rfl, d', n, os, hp, hs, rfl⟩
  have hd's : d'.size = L.length := hp.1.trans hds
  refine ⟨rfl, d'.toList.map Subtype.val, ?_, ?_, ownF h hd's, keepF w g n d' os⟩
  · have h1 := hp.2.2
    rw [show L.length = d.size from hds.symm] at h1
    rw [Array.extract_size, show d.size = d'.size by omega, Array.extract_size] at h1
    rw [← hd]
    exact h1.map _
  · rw [List.pairwise_map, List.pairwise_iff_getElem]
    intro i j hi hj hij
    have h1 := hs i j (Nat.zero_le _) hij (by simpa [hd's] using hj)
    simp only [Array.length_toList] at hi hj
    rw [getElem!_pos d' i hi, getElem!_pos d' j hj] at h1
    simp only [Array.getElem_toList]
    have h2 : ¬ ltOf cmpF d'[j] d'[i] = true := by rw [h1]; simp
    rw [ltF] at h2
    unfold leF
    omega

end Go.Proofs.Ytibcfglfcoljgaa
