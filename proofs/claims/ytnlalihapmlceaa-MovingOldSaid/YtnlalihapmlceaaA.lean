/- Moves: the program's object, its looks. -/
import Derived.Test.YtnlalihapmlceaaRows
import Derived.Test.YtnlalihapmlceaaLib
import Derived.KernelRfl
import Derived.Laws.ResultCell
set_option linter.unusedVariables false
set_option linter.unusedSimpArgs false
namespace Go.Proofs.Ytnlalihapmlceaa
open Go.RowKit Go.Own

/-- A move. -/
structure Mv where
  f : Int
  t : Int
  s : Int
  a : Int
  deriving DecidableEq

def mvE : Enc Mv where
  c := fun x => [.int .i64 x.f, .int .i64 x.t, .int .i64 x.s, .int .i64 x.a]
  k := 4
  hk := by decide
  len := fun _ => rfl
  one := fun x u hu => by simp at hu; rcases hu with rfl | rfl | rfl | rfl <;> rfl

theorem info31 : (Try.prog.info? 31).map (fun i => (i.zero, i.size, i.bytes)) = some (some (.agg #[.int .i64 0, .int .i64 0, .int .i64 0, .int .i64 0]), 4, 32) := by kernel_rfl
theorem info3 : (Try.prog.info? 3).map (fun i => (i.zero, i.size, i.bytes)) = some (some (.int .i64 0), 1, 8) := by kernel_rfl
theorem et36 : ET Try.prog 36 31 (.agg #[.int .i64 0, .int .i64 0, .int .i64 0, .int .i64 0]) 4 32 := ⟨Try.underlying36, info31, rfl, by decide⟩
theorem et44 : ET Try.prog 44 3 (.int .i64 0) 1 8 := ⟨Try.underlying44, info3, rfl, by decide⟩

/-- The object at p: its slice v, the moves L. -/
structure RepM (w : World) (B p : Nat) (v : Value) (most : Int) (L : List Mv) : Prop where
  hp : w.heap[p]? = some (.cells #[.int .i64 most, v] 63 (0, 0))
  hv : OwnL mvE w B 31 v L
  ne : v.ownBlock ≠ some p
  hl : L.length ≤ 64
  m1 : 1 ≤ most
  m2 : most ≤ 64

theorem RepM.c1 {w : World} {B p : Nat} {v : Value} {most : Int} {L : List Mv} (h : RepM w B p v most L) : w.cell? ⟨p, 1, none⟩ = some v := by rw [cell_block h.hp]; rfl
theorem RepM.c0 {w : World} {B p : Nat} {v : Value} {most : Int} {L : List Mv} (h : RepM w B p v most L) : w.cell? ⟨p, 0, none⟩ = some (.int .i64 most) := by rw [cell_block h.hp]; rfl

/-- The four cells of an element, as the walk spells them. -/
theorem mv_cells {w : World} {B : Nat} {g n cap i : Nat} {L : List Mv} (h : OwnL mvE w B 31 (.slice (some ⟨g, 0, none⟩) n cap) L) (hi : i < L.length) :
    w.cell? ⟨g, i * 4, none⟩ = some (.int .i64 L[i].f) ∧ w.cell? ⟨g, i * 4 + 1, none⟩ = some (.int .i64 L[i].t) ∧ w.cell? ⟨g, i * 4 + 1 + 1, none⟩ = some (.int .i64 L[i].s) ∧ w.cell? ⟨g, i * 4 + 1 + 1 + 1, none⟩ = some (.int .i64 L[i].a) :=
  ⟨OwnL.cell (j := 0) h hi (by decide), OwnL.cell (j := 1) h hi (by decide), OwnL.cell (j := 2) h hi (by decide), OwnL.cell (j := 3) h hi (by decide)⟩

set_option maxHeartbeats 400000 in
theorem new_no (n : Int) (w : World) (h : n < 1 ∨ 64 < n) :
    Calls Try.prog 16 #[.int .i64 n] w fun e w' => e = .returned (.tuple #[.pointer none, .int .i64 2]) ∧ w = w' := by
  rcases h with h | h
  all_goals
    go_enter Try.func16, Try.ntmps16
    go_wp2
    go_ret2
    exact ⟨rfl, rfl⟩

set_option maxHeartbeats 400000 in
theorem new_yes (n : Int) (B : Nat) (w : World) (h1 : 1 ≤ n) (h2 : n ≤ 64) (hB : B ≤ w.heap.size) :
    Calls Try.prog 16 #[.int .i64 n] w fun e w' => ∃ p, e = .returned (.tuple #[.pointer (some ⟨p, 0, none⟩), .int .i64 0]) ∧ RepM w' B p (.slice none 0 0) n [] ∧ w.heap.size ≤ p ∧ Keep (fun _ => False) w w' := by
  go_enter Try.func16, Try.ntmps16
  go_wp2
  go_ret2
  exact ⟨w.heap.size, rfl, ⟨heap_alloc_new w _, OwnL.nil _ _ _, by simp [Value.ownBlock], by simp, h1, h2⟩, Nat.le_refl _, (Keep.refl _ _).alloc _⟩

/-- The place of the move from f; below 0: none. -/
def ofN (L : List Mv) (f : Int) : Nat → Nat → Int
  | _, 0 => -1
  | i, n + 1 => if (L.getD i ⟨0, 0, 0, 0⟩).f = f then i else ofN L f (i + 1) n
def ofI (L : List Mv) (f : Int) : Int := ofN L f 0 L.length

theorem ofN_hit {L : List Mv} {f : Int} {i n : Nat} (h0 : 0 < n) (hi : i < L.length) (h : L[i].f = f) : ofN L f i n = i := by
  obtain ⟨m, rfl⟩ : ∃ m, n = m + 1 := ⟨n - 1, by omega⟩
  simp [ofN, hi, h]
theorem ofN_miss {L : List Mv} {f : Int} {i n : Nat} (h0 : 0 < n) (hi : i < L.length) (h : L[i].f ≠ f) : ofN L f i n = ofN L f (i + 1) (n - 1) := by
  obtain ⟨m, rfl⟩ : ∃ m, n = m + 1 := ⟨n - 1, by omega⟩
  simp [ofN, hi, h]

set_option maxHeartbeats 400000 in
theorem of_nil (f : Int) (w : World) :
    Calls Try.prog 33 #[.pointer none, .int .i64 f] w fun e w' => e = .returned (.tuple #[.int .i64 (-1), .int .i64 1]) ∧ w = w' := by
  go_enter Try.func33, Try.ntmps33
  go_wp2
  go_step3
  go_wp2
  rw [Exit.noGoto_ret]
  go_ret2
  exact ⟨rfl, rfl⟩

set_option maxHeartbeats 1000000 in
theorem of_any (B p : Nat) (v : Value) (most : Int) (L : List Mv) (f : Int) (w : World) (hR : RepM w B p v most L) :
    Calls Try.prog 33 #[.pointer (some ⟨p, 0, none⟩), .int .i64 f] w fun e w' =>
      e = .returned (.tuple #[.int .i64 (ofI L f), .int .i64 (if ofI L f = -1 then 6 else 0)]) ∧ Keep (fun _ => False) w w' := by
  have hc1 := hR.c1
  have hl := hR.hl
  rcases hR.hv.any with ⟨rfl, rfl⟩ | ⟨g, cap, rfl, hBg, hcap, hmax, hgl⟩
  · go_enter Try.func33, Try.ntmps33
    go_wp2
    go_step3
    go_wp2
    go_step3
    go_wp2
    refine wp_loop_once ?_
    go_wp2
    rw [Exit.noGoto_ret]
    go_ret2
    exact ⟨rfl, Keep.refl _ _⟩
  · go_enter Try.func33, Try.ntmps33
    go_wp2
    go_step3
    go_wp2
    go_step3
    go_wp2
    go_loopw [15] (fun i wr => ∃ k : Nat, k ≤ L.length ∧ i = .int .i64 k ∧ ofI L f = ofN L f k (L.length - k) ∧ Keep (fun _ => False) w wr) (fun i _ => L.length - (intOf i).toNat)
    case atStart => exact ⟨0, by omega, rfl, rfl, Keep.refl _ _⟩
    case round =>
      obtain ⟨k, hk, rfl, hr, hkeep⟩ := hrel
      have HR := Lib.hid hr
      clear hr
      by_cases hlt : k < L.length
      · obtain ⟨c0, c1, c2, c3⟩ := mv_cells (hR.hv.keep hkeep (fun _ _ => id)) hlt
        have HK := Lib.hid hkeep
        clear hkeep
        go_wp2
        case roundEnd =>
          have hne : (L[k].f != f) = true := by assumption
          go_roundw
          case rel => exact ⟨k + 1, by omega, by go_num, by rw [HR.out, ofN_miss (by omega) hlt (by simpa using hne), Nat.sub_sub], HK.out.alloc _⟩
          case measure => simp [intOf]; omega
        · have hne : (L[k].f != f) = false := by assumption
          rw [Exit.noGoto_ret]
          go_ret2
          have e1 : ofI L f = k := by rw [HR.out, ofN_hit (by omega) hlt (by simpa using hne)]
          exact ⟨by rw [e1, if_neg (by omega)]; rfl, HK.out.alloc _⟩
      · have HK := Lib.hid hkeep
        clear hkeep
        go_wp2
        rw [Exit.noGoto_ret]
        go_ret2
        have e1 : ofI L f = -1 := by rw [HR.out, show L.length - k = 0 by omega]; rfl
        exact ⟨by rw [e1, if_pos rfl]; rfl, HK.out⟩

/-- The move that a frame is in. -/
def findM (L : List Mv) (fr : Int) : Option Mv := L.find? fun x => decide (x.f = fr ∨ x.t = fr)
def mvV (x : Mv) : Value := .agg #[.int .i64 x.f, .int .i64 x.t, .int .i64 x.s, .int .i64 x.a]
def mv0 : Mv := ⟨0, 0, 0, 0⟩

theorem find_drop_hit {L : List Mv} {fr : Int} {k : Nat} (hk : k < L.length) (h : L[k].f = fr ∨ L[k].t = fr) : findM (L.drop k) fr = some L[k] := by
  unfold findM; rw [List.drop_eq_getElem_cons hk, List.find?_cons_of_pos (by simpa using h)]
theorem find_drop_miss {L : List Mv} {fr : Int} {k : Nat} (hk : k < L.length) (h : ¬ (L[k].f = fr ∨ L[k].t = fr)) : findM (L.drop k) fr = findM (L.drop (k + 1)) fr := by
  unfold findM; rw [List.drop_eq_getElem_cons hk, List.find?_cons_of_neg (by simpa using h)]

theorem cells4 {w : World} {b e : Nat} {x0 x1 x2 x3 : Value} {z : Nat × Nat} (hb : w.heap[b]? = some (.cells #[x0, x1, x2, x3] e z)) :
    w.cell? ⟨b, 0, none⟩ = some x0 ∧ w.cell? ⟨b, 1, none⟩ = some x1 ∧ w.cell? ⟨b, 2, none⟩ = some x2 ∧ w.cell? ⟨b, 3, none⟩ = some x3 := by
  simp [cell_block hb]

set_option maxHeartbeats 400000 in
theorem find_nil (f : Int) (w : World) :
    Calls Try.prog 13 #[.pointer none, .int .i64 f] w fun e w' => e = .returned (.tuple #[mvV mv0, .bool false]) ∧ Keep (fun _ => False) w w' := by
  go_enter Try.func13, Try.ntmps13
  go_wp2
  exact bodyPost_ret (v := .tuple #[mvV mv0, .bool false]) (by simp [results, Try.results13, go_sem, mvV, mv0]) rfl ⟨rfl, (Keep.refl _ _).alloc _⟩

set_option maxHeartbeats 1000000 in
theorem find_any (B p : Nat) (v : Value) (most : Int) (L : List Mv) (f : Int) (w : World) (hR : RepM w B p v most L) :
    Calls Try.prog 13 #[.pointer (some ⟨p, 0, none⟩), .int .i64 f] w fun e w' =>
      e = .returned (.tuple #[mvV ((findM L f).getD mv0), .bool (findM L f).isSome]) ∧ Keep (fun _ => False) w w' := by
  have hc1 := hR.c1
  have hl := hR.hl
  have hpl := block_lt hR.hp
  rcases hR.hv.any with ⟨rfl, rfl⟩ | ⟨g, cap, rfl, hBg, hcap, hmax, hgl⟩
  · go_enter Try.func13, Try.ntmps13
    go_wp2
    refine wp_loop_once ?_
    go_wp2
    exact bodyPost_ret (v := .tuple #[mvV mv0, .bool false]) (by simp [results, Try.results13, go_sem, mvV, mv0]) rfl ⟨rfl, (Keep.refl _ _).alloc _⟩
  · go_enter Try.func13, Try.ntmps13
    go_wp2
    go_loopw [16] (fun i wr => ∃ k : Nat, k ≤ L.length ∧ i = .int .i64 k ∧ findM L f = findM (L.drop k) f ∧ Keep (fun _ => False) (w.alloc (.cells #[.int .i64 0, .int .i64 0, .int .i64 0, .int .i64 0] 31)) wr) (fun i _ => L.length - (intOf i).toNat)
    case atStart => exact ⟨0, by omega, rfl, rfl, Keep.refl _ _⟩
    case round =>
      obtain ⟨k, hk, rfl, hr, hkeep⟩ := hrel
      have HR := Lib.hid hr
      clear hr
      have hb := (hkeep.block w.heap.size (by simp) id).trans (heap_alloc_new w _)
      obtain ⟨b0, b1, b2, b3⟩ := cells4 hb
      have f0 : wr.frozen? ⟨w.heap.size, 0, none⟩ = false := frozen_block hb
      have f1 : wr.frozen? ⟨w.heap.size, 1, none⟩ = false := frozen_block hb
      have f2 : wr.frozen? ⟨w.heap.size, 2, none⟩ = false := frozen_block hb
      have f3 : wr.frozen? ⟨w.heap.size, 3, none⟩ = false := frozen_block hb
      have hsz : w.heap.size < wr.heap.size := by have := hkeep.size; simp at this; omega
      have hKW : Hid (Keep (fun _ => False) w wr) := ((Keep.refl _ _).alloc _).trans hkeep
      have HK := Lib.hid hkeep
      clear hkeep hb
      by_cases hlt : k < L.length
      · obtain ⟨c0, c1, c2, c3⟩ := mv_cells (hR.hv.keep hKW.out (fun _ _ => id)) hlt
        by_cases h1 : L[k].f = f
        · have h1' : (L[k].f == f) = true := by simpa using h1
          have hF : Hid (findM L f = some L[k]) := by rw [Hid, HR.out, find_drop_hit hlt (.inl h1)]
          clear h1
          go_wp2
          refine bodyPost_ret (v := .tuple #[mvV L[k], .bool true]) ?_ rfl ⟨by rw [hF.out]; rfl, ?_⟩
          · simp [results, Try.results13, go_sem, mvV, b0, b1, b2, b3, hsz]
          · exact (by (repeat (first | exact hKW.out | exact Keep.refl _ _ | refine Keep.drew ?_ | refine Keep.drewN ?_ _ | refine Keep.alloc ?_ _ | refine Keep.setNew ?_ (by omega) _)); done)
        · have h1' : (L[k].f == f) = false := by simpa using h1
          by_cases h2 : L[k].t = f
          · have h2' : (L[k].t == f) = true := by simpa using h2
            have hF : Hid (findM L f = some L[k]) := by rw [Hid, HR.out, find_drop_hit hlt (.inr h2)]
            clear h1 h2
            go_wp2
            refine bodyPost_ret (v := .tuple #[mvV L[k], .bool true]) ?_ rfl ⟨by rw [hF.out]; rfl, ?_⟩
            · simp [results, Try.results13, go_sem, mvV, b0, b1, b2, b3, hsz]
            · exact (by (repeat (first | exact hKW.out | exact Keep.refl _ _ | refine Keep.drew ?_ | refine Keep.drewN ?_ _ | refine Keep.alloc ?_ _ | refine Keep.setNew ?_ (by omega) _)); done)
          · have h2' : (L[k].t == f) = false := by simpa using h2
            have hM : Hid (findM L f = findM (L.drop (k + 1)) f) := by rw [Hid, HR.out, find_drop_miss hlt (by simp [h1, h2])]
            clear h1 h2
            go_wp2
            go_roundw
            case rel => exact ⟨k + 1, by omega, by go_num, hM.out, HK.out.alloc _⟩
            case measure => simp [intOf]; omega
      · go_wp2
        refine bodyPost_ret (v := .tuple #[mvV mv0, .bool false]) ?_ rfl ⟨?_, ?_⟩
        · simp [results, Try.results13, go_sem, mvV, mv0, b0, b1, b2, b3, hsz]
        · rw [HR.out, List.drop_of_length_le (by omega)]; rfl
        · exact (by (repeat (first | exact hKW.out | exact Keep.refl _ _ | refine Keep.drew ?_ | refine Keep.drewN ?_ _ | refine Keep.alloc ?_ _ | refine Keep.setNew ?_ (by omega) _)); done)

end Go.Proofs.Ytnlalihapmlceaa
