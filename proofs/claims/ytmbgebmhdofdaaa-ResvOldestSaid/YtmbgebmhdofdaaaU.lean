/- Reservations: the sort; All and Held, of any list. -/
import Derived.Test.YtmbgebmhdofdaaaS
import Derived.Test.YtmbgebmhdofdaaaT
import Derived.Test.YtmbgebmhdofdaaaIns
import Derived.Shelf.SlSortCmp.WholeK
set_option linter.unusedVariables false
set_option linter.unusedSimpArgs false
namespace Go.Proofs.Ytmbgebmhdofdaaa
open Go.RowKit Go.Own
open Go.Sort

instance : Inhabited Rv := ⟨rv0⟩
def cmpR (x y : Rv) : Int := if x.s < y.s ∨ (x.s = y.s ∧ x.p < y.p) then -1 else if x.s = y.s ∧ x.p = y.p then 0 else 1
def leR (a b : Rv) : Prop := a.s < b.s ∨ (a.s = b.s ∧ a.p ≤ b.p)
theorem ltR (x y : Rv) : ltOf cmpR x y = true ↔ x.s < y.s ∨ (x.s = y.s ∧ x.p < y.p) := by
  unfold ltOf cmpR
  rw [decide_eq_true_eq]
  split
  · omega
  · split <;> omega
theorem swoR : SWO (ltOf cmpR) where
  irrefl x := by rw [← Bool.not_eq_true, ltR]; omega
  trans x y z h1 h2 := by rw [ltR] at *; omega
  ntrans x y z h1 h2 := by rw [← Bool.not_eq_true, ltR] at *; omega

/-- A world that has only grown. -/
def Gr (w w' : World) : Prop := ∃ q os, w' = grow (w.drewN q) os
theorem Gr.refl (w : World) : Gr w w := ⟨0, #[], by simp [grow, World.drewN]⟩
theorem Gr.alloc {w w1 : World} (h : Gr w w1) (o : Obj) : Gr w (w1.alloc o) := by
  obtain ⟨q, os, rfl⟩ := h
  exact ⟨q, os ++ #[o], by rw [alloc_eq_grow, grow_grow]⟩
theorem Gr.drewN {w w1 : World} (h : Gr w w1) (n : Nat) : Gr w (w1.drewN n) := by
  obtain ⟨q, os, rfl⟩ := h
  exact ⟨q + n, os, by simp [grow, World.drewN, Nat.add_assoc]⟩
theorem Gr.drew {w w1 : World} (h : Gr w w1) : Gr w w1.drew := h.drewN 1
theorem Gr.trans {a b c : World} (h : Gr a b) (k : Gr b c) : Gr a c := by
  obtain ⟨q, os, rfl⟩ := h
  obtain ⟨q', os', rfl⟩ := k
  refine ⟨q + q', os ++ os', ?_⟩
  simp [grow, World.drewN, Nat.add_assoc, Array.append_assoc]
theorem Gr.keep {w w' : World} (h : Gr w w') : Keep (fun _ => False) w w' := by
  obtain ⟨q, os, rfl⟩ := h
  refine ⟨rfl, rfl, rfl, by simp [grow, World.drewN], fun k hk _ => ?_⟩
  simp only [grow, World.drewN]
  rw [Array.getElem?_append_left hk]

set_option maxHeartbeats 400000 in
theorem of_gr (x : Rv) (w : World) : Calls Try.prog 28 #[rvV x] w fun e w' => e = .returned (.agg #[.int .i64 x.s, .int .i64 x.p]) ∧ Gr w w' := by
  unfold rvV
  go_enter Try.func28, Try.ntmps28
  go_wp2
  refine bodyPost_ret (v := .agg #[.int .i64 x.s, .int .i64 x.p]) ?_ rfl ⟨rfl, ((Gr.refl _).alloc _).alloc _⟩
  simp [results, Try.results28, go_sem]

theorem s8 {w W : World} {b c : Nat} {x0 x1 x2 x3 y0 y1 y2 y3 : Value} (K : Keep (fun _ => False) w W)
    (hx : w.cell? ⟨b, 0, none⟩ = some x0 ∧ w.cell? ⟨b, 1, none⟩ = some x1 ∧ w.cell? ⟨b, 2, none⟩ = some x2 ∧ w.cell? ⟨b, 3, none⟩ = some x3) (hy : w.cell? ⟨c, 0, none⟩ = some y0 ∧ w.cell? ⟨c, 1, none⟩ = some y1 ∧ w.cell? ⟨c, 2, none⟩ = some y2 ∧ w.cell? ⟨c, 3, none⟩ = some y3) :
    W.cell? ⟨b, 0, none⟩ = some x0 ∧ W.cell? ⟨b, 1, none⟩ = some x1 ∧ W.cell? ⟨b, 2, none⟩ = some x2 ∧ W.cell? ⟨b, 3, none⟩ = some x3 ∧ W.cell? ⟨c, 0, none⟩ = some y0 ∧ W.cell? ⟨c, 1, none⟩ = some y1 ∧ W.cell? ⟨c, 2, none⟩ = some y2 ∧ W.cell? ⟨c, 3, none⟩ = some y3 := by
  have f : ∀ {b i : Nat} {x : Value}, w.cell? ⟨b, i, none⟩ = some x → W.cell? ⟨b, i, none⟩ = some x := fun h => (K.cell (block_lt_cell h) id).trans h
  exact ⟨f hx.1, f hx.2.1, f hx.2.2.1, f hx.2.2.2, f hy.1, f hy.2.1, f hy.2.2.1, f hy.2.2.2⟩

set_option maxHeartbeats 2000000 in
theorem cmp_any (x y : Rv) (W : World) : Calls Try.prog 27 #[rvV x, rvV y] W fun e w' => e = .returned (.int .i64 (cmpR x y)) ∧ Gr W w' := by
  have G0 : Hid (Gr W ((W.alloc (.cells #[.int .i64 x.s, .int .i64 x.p, .int .i64 x.f, .int .u8 x.b] 31)).alloc (.cells #[.int .i64 y.s, .int .i64 y.p, .int .i64 y.f, .int .u8 y.b] 31))) := ((Gr.refl _).alloc _).alloc _
  have HX := Lib.hid (cells4 (w := (W.alloc (.cells #[.int .i64 x.s, .int .i64 x.p, .int .i64 x.f, .int .u8 x.b] 31)).alloc (.cells #[.int .i64 y.s, .int .i64 y.p, .int .i64 y.f, .int .u8 y.b] 31)) (b := W.heap.size) (e := 31) (z := (0, 0)) (x0 := .int .i64 x.s) (x1 := .int .i64 x.p) (x2 := .int .i64 x.f) (x3 := .int .u8 x.b) (by simp only [heap_alloc_at, heap_drewN, heap_drew, World.size_alloc, Nat.left_eq_add, Nat.add_eq_left, Nat.reduceEqDiff, reduceIte, Nat.succ_ne_self, Nat.add_left_cancel_iff]))
  have HY := Lib.hid (cells4 (w := (W.alloc (.cells #[.int .i64 x.s, .int .i64 x.p, .int .i64 x.f, .int .u8 x.b] 31)).alloc (.cells #[.int .i64 y.s, .int .i64 y.p, .int .i64 y.f, .int .u8 y.b] 31)) (b := W.heap.size + 1) (e := 31) (z := (0, 0)) (x0 := .int .i64 y.s) (x1 := .int .i64 y.p) (x2 := .int .i64 y.f) (x3 := .int .u8 y.b) (by simp only [heap_alloc_at, heap_drewN, heap_drew, World.size_alloc, Nat.left_eq_add, Nat.add_eq_left, Nat.reduceEqDiff, reduceIte, Nat.succ_ne_self, Nat.add_left_cancel_iff]))
  rcases (show x.s < y.s ∨ (x.s = y.s ∧ x.p < y.p) ∨ (x.s = y.s ∧ x.p = y.p) ∨ (y.s < x.s) ∨ (x.s = y.s ∧ y.p < x.p) by omega) with h | ⟨h, h2⟩ | ⟨h, h2⟩ | h | ⟨h, h2⟩
  · have HC : Hid (cmpR x y = -1) := by unfold Hid cmpR; rw [if_pos (.inl h)]
    unfold rvV
    go_enter Try.func27, Try.ntmps27
    go_wp2
    go_ret
    exact ⟨ret_int HC.out.symm, G0.out⟩
  · have HC : Hid (cmpR x y = -1) := by unfold Hid cmpR; rw [if_pos (.inr ⟨h, h2⟩)]
    have t0 : (x.s == y.s) = true := by simpa using h
    have t1 : ¬ x.s < y.s := by omega
    clear h
    unfold rvV
    go_enter Try.func27, Try.ntmps27
    go_wp2
    go_ret
    exact ⟨ret_int HC.out.symm, G0.out⟩
  · have HC : Hid (cmpR x y = 0) := by unfold Hid cmpR; rw [if_neg (by omega), if_pos ⟨h, h2⟩]
    have t0 : (x.s == y.s) = true := by simpa using h
    have t1 : ¬ x.s < y.s := by omega
    have t2 : (x.p == y.p) = true := by simpa using h2
    have t3 : ¬ x.p < y.p := by omega
    clear h h2
    unfold rvV
    go_enter Try.func27, Try.ntmps27
    go_wp2
    go_region_held3 (fun w' => w'.cell? ⟨W.heap.size, 0, none⟩ = some (.int .i64 x.s) ∧ w'.cell? ⟨W.heap.size, 1, none⟩ = some (.int .i64 x.p) ∧ w'.cell? ⟨W.heap.size, 2, none⟩ = some (.int .i64 x.f) ∧ w'.cell? ⟨W.heap.size, 3, none⟩ = some (.int .u8 x.b) ∧ w'.cell? ⟨W.heap.size + 1, 0, none⟩ = some (.int .i64 y.s) ∧ w'.cell? ⟨W.heap.size + 1, 1, none⟩ = some (.int .i64 y.p) ∧ w'.cell? ⟨W.heap.size + 1, 2, none⟩ = some (.int .i64 y.f) ∧ w'.cell? ⟨W.heap.size + 1, 3, none⟩ = some (.int .u8 y.b))
      ((refine s8 ?_ HX.out HY.out; first | ((repeat (first | exact Keep.refl _ _ | exact Keep.refl _ _ | refine Keep.drew ?_ | refine Keep.drewN ?_ _ | refine Keep.alloc ?_ _ | refine Keep.setNew ?_ (by omega) _)); done) | ((repeat (first | exact GA.out.keep | exact GB.out.keep | exact Keep.refl _ _ | refine Keep.drew ?_ | refine Keep.drewN ?_ _ | refine Keep.alloc ?_ _ | refine Keep.setNew ?_ (by omega) _)); done)))
      (first | (go_at_call_of 28 (x.s); refine (of_gr x _).mono ?_; rintro e w5 ⟨rfl, g5⟩; have GA : Hid (Gr ((W.alloc (.cells #[.int .i64 x.s, .int .i64 x.p, .int .i64 x.f, .int .u8 x.b] 31)).alloc (.cells #[.int .i64 y.s, .int .i64 y.p, .int .i64 y.f, .int .u8 y.b] 31)) w5) := Gr.trans (by first | exact (Gr.refl _).drew | exact GB.out | exact GB.out.drew) g5; clear g5)
             | (go_at_call_of 28 (y.s); refine (of_gr y _).mono ?_; rintro e w6 ⟨rfl, g6⟩; have GB : Hid (Gr ((W.alloc (.cells #[.int .i64 x.s, .int .i64 x.p, .int .i64 x.f, .int .u8 x.b] 31)).alloc (.cells #[.int .i64 y.s, .int .i64 y.p, .int .i64 y.f, .int .u8 y.b] 31)) w6) := Gr.trans (by first | exact (Gr.refl _).drew | exact GA.out | exact GA.out.drew) g6; clear g6) | fail)
    all_goals
      go_wp2
      go_ret
      first | exact ⟨ret_int HC.out.symm, G0.out.trans GA.out⟩ | exact ⟨ret_int HC.out.symm, G0.out.trans GB.out⟩
  · have HC : Hid (cmpR x y = 1) := by unfold Hid cmpR; rw [if_neg (by omega), if_neg (by omega)]
    have t0 : (x.s == y.s) = false := by simp; omega
    have t1 : ¬ x.s < y.s := by omega
    clear h
    unfold rvV
    go_enter Try.func27, Try.ntmps27
    go_wp2
    go_region_held3 (fun w' => w'.cell? ⟨W.heap.size, 0, none⟩ = some (.int .i64 x.s) ∧ w'.cell? ⟨W.heap.size, 1, none⟩ = some (.int .i64 x.p) ∧ w'.cell? ⟨W.heap.size, 2, none⟩ = some (.int .i64 x.f) ∧ w'.cell? ⟨W.heap.size, 3, none⟩ = some (.int .u8 x.b) ∧ w'.cell? ⟨W.heap.size + 1, 0, none⟩ = some (.int .i64 y.s) ∧ w'.cell? ⟨W.heap.size + 1, 1, none⟩ = some (.int .i64 y.p) ∧ w'.cell? ⟨W.heap.size + 1, 2, none⟩ = some (.int .i64 y.f) ∧ w'.cell? ⟨W.heap.size + 1, 3, none⟩ = some (.int .u8 y.b))
      ((refine s8 ?_ HX.out HY.out; first | ((repeat (first | exact Keep.refl _ _ | exact Keep.refl _ _ | refine Keep.drew ?_ | refine Keep.drewN ?_ _ | refine Keep.alloc ?_ _ | refine Keep.setNew ?_ (by omega) _)); done) | ((repeat (first | exact GA.out.keep | exact GB.out.keep | exact Keep.refl _ _ | refine Keep.drew ?_ | refine Keep.drewN ?_ _ | refine Keep.alloc ?_ _ | refine Keep.setNew ?_ (by omega) _)); done)))
      (first | (go_at_call_of 28 (x.s); refine (of_gr x _).mono ?_; rintro e w5 ⟨rfl, g5⟩; have GA : Hid (Gr ((W.alloc (.cells #[.int .i64 x.s, .int .i64 x.p, .int .i64 x.f, .int .u8 x.b] 31)).alloc (.cells #[.int .i64 y.s, .int .i64 y.p, .int .i64 y.f, .int .u8 y.b] 31)) w5) := Gr.trans (by first | exact (Gr.refl _).drew | exact GB.out | exact GB.out.drew) g5; clear g5)
             | (go_at_call_of 28 (y.s); refine (of_gr y _).mono ?_; rintro e w6 ⟨rfl, g6⟩; have GB : Hid (Gr ((W.alloc (.cells #[.int .i64 x.s, .int .i64 x.p, .int .i64 x.f, .int .u8 x.b] 31)).alloc (.cells #[.int .i64 y.s, .int .i64 y.p, .int .i64 y.f, .int .u8 y.b] 31)) w6) := Gr.trans (by first | exact (Gr.refl _).drew | exact GA.out | exact GA.out.drew) g6; clear g6) | fail)
    all_goals
      go_wp2
      go_ret
      first | exact ⟨ret_int HC.out.symm, G0.out.trans GA.out⟩ | exact ⟨ret_int HC.out.symm, G0.out.trans GB.out⟩
  · have HC : Hid (cmpR x y = 1) := by unfold Hid cmpR; rw [if_neg (by omega), if_neg (by omega)]
    have t0 : (x.s == y.s) = true := by simpa using h
    have t1 : ¬ x.s < y.s := by omega
    have t2 : (x.p == y.p) = false := by simp; omega
    have t3 : ¬ x.p < y.p := by omega
    clear h h2
    unfold rvV
    go_enter Try.func27, Try.ntmps27
    go_wp2
    go_region_held3 (fun w' => w'.cell? ⟨W.heap.size, 0, none⟩ = some (.int .i64 x.s) ∧ w'.cell? ⟨W.heap.size, 1, none⟩ = some (.int .i64 x.p) ∧ w'.cell? ⟨W.heap.size, 2, none⟩ = some (.int .i64 x.f) ∧ w'.cell? ⟨W.heap.size, 3, none⟩ = some (.int .u8 x.b) ∧ w'.cell? ⟨W.heap.size + 1, 0, none⟩ = some (.int .i64 y.s) ∧ w'.cell? ⟨W.heap.size + 1, 1, none⟩ = some (.int .i64 y.p) ∧ w'.cell? ⟨W.heap.size + 1, 2, none⟩ = some (.int .i64 y.f) ∧ w'.cell? ⟨W.heap.size + 1, 3, none⟩ = some (.int .u8 y.b))
      ((refine s8 ?_ HX.out HY.out; first | ((repeat (first | exact Keep.refl _ _ | exact Keep.refl _ _ | refine Keep.drew ?_ | refine Keep.drewN ?_ _ | refine Keep.alloc ?_ _ | refine Keep.setNew ?_ (by omega) _)); done) | ((repeat (first | exact GA.out.keep | exact GB.out.keep | exact Keep.refl _ _ | refine Keep.drew ?_ | refine Keep.drewN ?_ _ | refine Keep.alloc ?_ _ | refine Keep.setNew ?_ (by omega) _)); done)))
      (first | (go_at_call_of 28 (x.s); refine (of_gr x _).mono ?_; rintro e w5 ⟨rfl, g5⟩; have GA : Hid (Gr ((W.alloc (.cells #[.int .i64 x.s, .int .i64 x.p, .int .i64 x.f, .int .u8 x.b] 31)).alloc (.cells #[.int .i64 y.s, .int .i64 y.p, .int .i64 y.f, .int .u8 y.b] 31)) w5) := Gr.trans (by first | exact (Gr.refl _).drew | exact GB.out | exact GB.out.drew) g5; clear g5)
             | (go_at_call_of 28 (y.s); refine (of_gr y _).mono ?_; rintro e w6 ⟨rfl, g6⟩; have GB : Hid (Gr ((W.alloc (.cells #[.int .i64 x.s, .int .i64 x.p, .int .i64 x.f, .int .u8 x.b] 31)).alloc (.cells #[.int .i64 y.s, .int .i64 y.p, .int .i64 y.f, .int .u8 y.b] 31)) w6) := Gr.trans (by first | exact (Gr.refl _).drew | exact GA.out | exact GA.out.drew) g6; clear g6) | fail)
    all_goals
      go_wp2
      go_ret
      first | exact ⟨ret_int HC.out.symm, G0.out.trans GA.out⟩ | exact ⟨ret_int HC.out.symm, G0.out.trans GB.out⟩

/-! ### The row in the sort's words and in mine -/
theorem flatR (d : Array Rv) : (flatK rvE.c 4 d).toList = rvE.cs d.toList := by
  have hs : (flatK rvE.c 4 d).size = d.size * 4 := by simp
  apply List.ext_getElem?
  intro t
  by_cases ht : t < d.size * 4
  · have h1 := get_flatK rvE.c 4 d t ht
    have hd : t / 4 < d.size := by omega
    have hd2 : t / 4 < d.toList.length := by simpa using hd
    have h2 : (rvE.cs d.toList)[t / 4 * rvE.k + t % 4]? = (rvE.c (d.toList[t / 4]'hd2))[t % 4]? := rvE.cs_at hd2 (Nat.mod_lt _ (by decide))
    have e : t / 4 * rvE.k + t % 4 = t := by show t / 4 * 4 + t % 4 = t; omega
    rw [e] at h2
    rw [h2, Array.getElem?_toList, Array.getElem?_eq_getElem (by omega)]
    rw [getElem!_pos _ t (by omega)] at h1
    rw [h1, getElem!_pos d (t / 4) hd]
    simp only [Array.getElem_toList]
    have h3 : t % 4 < (rvE.c d[t / 4]).length := Nat.mod_lt _ (by decide)
    rw [getElem!_pos (rvE.c d[t / 4]) (t % 4) h3]
    exact (List.getElem?_eq_getElem h3).symm
  · rw [List.getElem?_eq_none (by rw [Array.length_toList]; omega), List.getElem?_eq_none (by rw [rvE.cs_length]; simp; show d.size * 4 ≤ t; omega)]

theorem holdsR {w : World} {B g cap n : Nat} {d : Array Rv} (h : OwnL rvE w B 31 (.slice (some ⟨g, 0, none⟩) n cap) d.toList) : HoldsK rvE.c 4 w g 0 d := by
  obtain ⟨cur, hn, hg, hc, hm, hl, ht, hB⟩ := h.block
  intro j hj
  have hs : (flatK rvE.c 4 d).size = d.size * 4 := by simp
  rw [hs] at hj
  refine ⟨?_, by simp [World.frozen?, hg]⟩
  have h1 : (rvE.cs d.toList)[j]? = some ((flatK rvE.c 4 d)[j]!) := by
    rw [← flatR, Array.getElem?_toList, Array.getElem?_eq_getElem (by omega), getElem!_pos _ j (by omega)]
  rw [← ht, List.getElem?_take] at h1
  split at h1
  · rw [Nat.zero_add, cell_block hg]
    simpa using h1
  · cases h1

theorem ownR {w : World} {B g cap n m : Nat} {L : List Rv} {d' : Array Rv} {os : Array Obj} (h : OwnL rvE w B 31 (.slice (some ⟨g, 0, none⟩) n cap) L) (hs : d'.size = L.length) :
    OwnL rvE (sortWorldK rvE.c 4 w g 0 m d' os) B 31 (.slice (some ⟨g, 0, none⟩) n cap) d'.toList := by
  obtain ⟨cur, hn, hg, hc, hm, hl, ht, hB⟩ := h.block
  have hk : rvE.k = 4 := rfl
  rw [hk] at hl
  refine OwnL.of_block (cur := (putCells id 0 (flatK rvE.c 4 d') cur.toArray).toList) ?_ (by rw [hn]; simp [hs]) hc hm (by simp [putCells, hl, hk]) ?_ hB
  · have hgl := block_lt hg
    unfold sortWorldK grow putRowK putRow mapBlock Sort.ahead
    simp only
    rw [Array.getElem?_append_left (by simpa using hgl), Array.getElem?_modify, if_pos rfl, hg]
    simp [onCells]
  · rw [← flatR]
    have hfs : (flatK rvE.c 4 d').size = d'.size * 4 := by simp
    apply List.ext_getElem?
    intro t
    rw [List.getElem?_take, Array.length_toList, hk]
    by_cases ht2 : t < d'.size * 4
    · rw [if_pos ht2, Array.getElem?_toList, Array.getElem?_toList]
      have htc : t < cur.toArray.size := by simp [hl]; omega
      simp only [putCells, Array.getElem?_mapIdx, Array.getElem?_eq_getElem htc, Option.map_some]
      rw [if_pos (by omega), Array.getElem?_eq_getElem (by omega), Nat.sub_zero, getElem!_pos _ t (by omega)]
      rfl
    · rw [if_neg ht2, Array.getElem?_toList, Array.getElem?_eq_none (by omega)]

theorem keepR (w : World) (g m : Nat) (d' : Array Rv) (os : Array Obj) : Keep (fun z => z = g) w (sortWorldK rvE.c 4 w g 0 m d' os) :=
  ⟨rfl, rfl, rfl, by simp [sortWorldK, grow, putRowK, putRow, mapBlock, Sort.ahead], fun k hk hs => by
    unfold sortWorldK grow putRowK putRow mapBlock Sort.ahead
    simp only
    rw [Array.getElem?_append_left (by simpa using hk), Array.getElem?_modify, if_neg (fun e => hs e.symm)]⟩

def SortC (w : World) (B : Nat) (v : Value) (L : List Rv) (e : Ending) (w' : World) : Prop :=
  e = .returned (.tuple #[]) ∧ ∃ L' : List Rv, L'.Perm L ∧ OwnL rvE w' B 31 v L' ∧ Keep (fun z => v.ownBlock = some z) w w'

theorem sort_any (B : Nat) (v : Value) (L : List Rv) (hl : L.length ≤ 1000) (w : World) (h : OwnL rvE w B 31 v L) :
    Calls Try.prog 26 #[v, .func (.func 27) #[] #[]] w (SortC w B v L) := by
  rcases h.any with ⟨rfl, rfl⟩ | ⟨g, cap, rfl, hBg, hcap, hmax, hgl⟩
  · refine (sort_small none 0 0 (by omega) _ w).mono ?_
    rintro e w' ⟨rfl, rfl⟩
    exact ⟨rfl, [], List.Perm.refl _, h, Keep.refl _ _⟩
  · have hds : L.toArray.size = L.length := by simp
    have hH : HoldsK rvE.c 4 w g 0 L.toArray := holdsR (by simpa using h)
    have eg : ∀ args w, (callFunc 27 args).run Try.prog w = .ok (.enter 27 args) w := enters_of Try.func27 (by kernel_rfl) rfl
    have hc := AnyQ.slices_SortFunc sortRv 4 Try.isAgg31 Try.sizeOf31 rvE.c (fun x => rvE.len x) (fun x => rvE.one x) cmpR swoR 27 #[] g 0 cap L.toArray w eg (fun _ _ _ _ x y => cmp_any x y _) hH hgl (by rw [hds]; omega)
    rw [hds] at hc
    refine Calls.mono (show Calls Try.prog 26 _ w _ from hc) ?_
    rintro e w' ⟨rfl, d', n, os, hp, hs, rfl⟩
    have hd's : d'.size = L.length := hp.1.trans hds
    refine ⟨rfl, d'.toList, ?_, ownR h hd's, (keepR w g n d' os).mono fun z _ hz => by rw [hz]; rfl⟩
    have h1 := hp.2.2
    rw [show L.length = L.toArray.size from hds.symm] at h1
    rw [Array.extract_size, show L.toArray.size = d'.size by omega, Array.extract_size] at h1
    simpa using h1

set_option maxHeartbeats 1000000 in
theorem allL_any (B p : Nat) (v : Value) (L : List Rv) (w : World) (hR : RepR w B p v L) :
    Calls Try.prog 10 #[.pointer (some ⟨p, 0, none⟩)] w fun e w' => ∃ v' L', e = .returned v' ∧ L'.Perm L ∧ OwnL rvE w' w.heap.size 31 v' L' ∧ Keep (fun _ => False) w w' := by
  have hc0 := hR.c0
  have hl := hR.hl
  have hpl := block_lt hR.hp
  go_enter Try.func10, Try.ntmps10
  go_wp2_with (first | (at_builtin; go_loud (refine wpl_app et28 rfl (.tmp 6) (.tmp 10) rfl w.heap.size (.slice (some ⟨w.heap.size, 0, none⟩) 0 0) 0 [] rfl (own_empty_at (heap_alloc_new w _) (Nat.le_refl _)) v L.length (rvE.cs L) rfl (hR.hv.reads.keep (S := fun _ => False) (by (repeat (first | exact Keep.refl _ _ | exact Keep.refl _ _ | refine Keep.drew ?_ | refine Keep.drewN ?_ _ | refine Keep.alloc ?_ _ | refine Keep.setNew ?_ (by omega) _)); done) (fun _ _ _ _ => id)) (rvE.cs_one_cell _) (by unfold maxLen; omega) (by omega) (by simp) ?_; intro v1 w1 hown1 hgrow1; have HO1 : Hid (OwnL rvE w1 w.heap.size 31 v1 L) := (by unfold Hid; rw [Nat.zero_add, List.nil_append] at hown1; exact hown1); have HK1 : Hid (Keep (fun _ => False) w w1) := Keep.grown (by (repeat (first | exact Keep.refl _ _ | exact Keep.refl _ _ | refine Keep.drew ?_ | refine Keep.drewN ?_ _ | refine Keep.alloc ?_ _ | refine Keep.setNew ?_ (by omega) _)); done) hgrow1 (fun x h1 h2 => by simp [Value.ownBlock] at h1; omega); clear hown1 hgrow1)) | (go_at_call 26; go_loud (refine (sort_any w.heap.size v1 L (by omega) _ HO1.out).mono ?_; rintro e w2 ⟨rfl, L', hp2, hO2, hk2⟩; have HP2 := Lib.hid hp2; have HO2 := Lib.hid hO2; have HK2 : Hid (Keep (fun _ => False) w w2) := ((HK1.out.mono (T := fun x => w.heap.size ≤ x) (fun _ _ h => h.elim)).trans (hk2.mono (T := fun x => w.heap.size ≤ x) (fun x _ h => (HO1.out.lt x h).1))).fresh (fun _ h => h) (Nat.le_refl _); clear hp2 hO2 hk2)))
  go_ret
  exact ⟨_, L', rfl, HP2.out, HO2.out, HK2.out⟩

def sumO : List Rv → Int
  | [] => 0
  | x :: L => (opN x.f x.b 8).length + sumO L
theorem sumO_perm {L M : List Rv} (h : L.Perm M) : sumO L = sumO M := by
  induction h with
  | nil => rfl
  | cons x _ ih => simp [sumO, ih]
  | swap x y l => simp [sumO]; omega
  | trans _ _ h1 h2 => exact h1.trans h2
theorem sumO_app (L M : List Rv) : sumO (L ++ M) = sumO L + sumO M := by
  induction L with
  | nil => simp [sumO]
  | cons x L ih => simp [sumO, ih]; omega
theorem sumO_take {L : List Rv} {k : Nat} (h : k < L.length) : sumO (L.take (k + 1)) = sumO (L.take k) + (opN L[k].f L[k].b 8).length := by
  rw [List.take_succ_eq_append_getElem h, sumO_app]; simp [sumO]
theorem sumO_le (L : List Rv) : 0 ≤ sumO L ∧ sumO L ≤ 8 * L.length := by
  induction L with
  | nil => simp [sumO]
  | cons x L ih => have := opN_len x.f x.b 8; simp [sumO]; omega

set_option maxHeartbeats 1000000 in
theorem heldL_any (B p : Nat) (v : Value) (L : List Rv) (hb : ∀ x, x ∈ L → 0 ≤ x.f ∧ x.f < 100000 ∧ x.b < 256) (w : World) (hR : RepR w B p v L) :
    Calls Try.prog 11 #[.pointer (some ⟨p, 0, none⟩)] w fun e w' => e = .returned (.int .i64 (sumO L)) ∧ Keep (fun _ => False) w w' := by
  have hl := hR.hl
  go_enter Try.func11, Try.ntmps11
  go_wp2_with (go_at_call 10; go_loud (refine (allL_any B p v L _ hR).mono ?_; rintro e w1 ⟨v1, L1, rfl, hP, hO, hk1⟩; have HP := Lib.hid hP; have HO := Lib.hid hO; have HK1 := Lib.hid hk1; obtain ⟨a, cap, rfl, hag⟩ := hO.slice; have HAG := Lib.hid hag; clear hO hk1 hP hag))
  have hl1 : L1.length ≤ 200 := by rw [HP.out.length_eq]; exact hl
  go_loopw [3, 9] (fun o i wr => ∃ k : Nat, k ≤ L1.length ∧ i = .int .i64 k ∧ o = .int .i64 (sumO (L1.take k)) ∧ Keep (fun _ => False) w1 wr) (fun _ i _ => L1.length - (intOf i).toNat)
  case atStart => exact ⟨0, by omega, rfl, by simp [sumO], Keep.refl _ _⟩
  case round =>
    obtain ⟨k, hk, rfl, rfl, hkeep⟩ := hrel
    have HK := Lib.hid hkeep
    clear hkeep
    by_cases hlt : k < L1.length
    · obtain ⟨g, rfl⟩ := HAG.out (by intro e; rw [e] at hlt; simp at hlt)
      have hO2 := Lib.hid (HO.out.keep HK.out (fun _ _ => id))
      obtain ⟨c0, c1, c2, c3⟩ := rv_cells hO2.out hlt
      have hm := hb _ (HP.out.mem_iff.mp (List.getElem_mem hlt))
      have HM := Lib.hid (And.intro (And.intro hm.1 hm.2.1) hm.2.2)
      clear hm
      have hs0 := sumO_le (L1.take k)
      rw [List.length_take] at hs0
      have hs1 := opN_len L1[k].f L1[k].b 8
      have hF : Hid (sumO (L1.take (k + 1)) = sumO (L1.take k) + (opN L1[k].f L1[k].b 8).length) := sumO_take hlt
      obtain ⟨sk, hsk⟩ : ∃ z, sumO (L1.take k) = z := ⟨_, rfl⟩
      obtain ⟨n, hn⟩ : ∃ z, (opN L1[k].f L1[k].b 8).length = z := ⟨_, rfl⟩
      rw [hsk, hn] at hF
      rw [hsk] at hs0 ⊢
      rw [hn] at hs1
      have HN := Lib.hid hn
      clear hsk hn
      have hww : IntKind.i64.wrap (sk + n) = sk + n := IntWalk.i64_in _ (by omega)
      go_wp2_with (go_at_call 29; go_loud (refine (open_any L1[k] HM.out.1 HM.out.2 _).mono ?_; rintro e w3 ⟨v3, rfl, hO3, hk3⟩; obtain ⟨a3, c3, rfl, -⟩ := hO3.slice; rw [HN.out]; have HK3 : Hid (Keep (fun _ => False) wr w3) := Keep.trans (by (repeat (first | exact Keep.refl _ _ | exact Keep.refl _ _ | refine Keep.drew ?_ | refine Keep.drewN ?_ _ | refine Keep.alloc ?_ _ | refine Keep.setNew ?_ (by omega) _)); done) hk3; clear hO3 hk3))
      go_roundw
      case rel => exact ⟨k + 1, by omega, by go_num, by rw [hF.out], HK.out.trans HK3.out⟩
      case measure => simp [intOf]; omega
    · obtain rfl : k = L1.length := by omega
      rw [List.take_length]
      have hF : Hid (sumO L1 = sumO L) := sumO_perm HP.out
      go_wp2
      go_ret
      exact ⟨ret_int hF.out, HK1.out.trans HK.out⟩

end Go.Proofs.Ytmbgebmhdofdaaa
