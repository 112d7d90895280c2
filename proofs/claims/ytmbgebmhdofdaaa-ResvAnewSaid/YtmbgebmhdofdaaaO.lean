/- Reservations: the owner, in any list. -/
import Derived.Test.YtmbgebmhdofdaaaM
set_option linter.unusedVariables false
set_option linter.unusedSimpArgs false
namespace Go.Proofs.Ytmbgebmhdofdaaa
open Go.RowKit Go.Own

def owF (L : List Rv) (a : Int) : Option Rv := L.find? fun x => x.f == a
theorem owF_drop {L : List Rv} {a : Int} {k : Nat} (hk : k < L.length) (h : owF L a = owF (L.drop k) a) (hn : (L[k].f == a) = false) : owF L a = owF (L.drop (k + 1)) a := by
  rw [h, List.drop_eq_getElem_cons hk]
  unfold owF
  rw [List.find?_cons, hn]
theorem owF_hit {L : List Rv} {a : Int} {k : Nat} (hk : k < L.length) (h : owF L a = owF (L.drop k) a) (hn : (L[k].f == a) = true) : owF L a = some L[k] := by
  rw [h, List.drop_eq_getElem_cons hk]
  unfold owF
  rw [List.find?_cons, hn]
set_option maxRecDepth 100000 in
set_option maxHeartbeats 2000000 in
theorem owner_any (B p : Nat) (v : Value) (L : List Rv) (f : Int) (h0 : 0 ≤ f) (hf : i64R f) (w : World) (hR : RepR w B p v L) :
    Calls Try.prog 24 #[.pointer (some ⟨p, 0, none⟩), .int .i64 f] w fun e w' => e = .returned (.tuple #[rvV ((owF L (f / 8 * 8)).getD rv0), .bool (owF L (f / 8 * 8)).isSome]) ∧ Keep (fun _ => False) w w' := by
  have hc0 := hR.c0
  have hpl := block_lt hR.hp
  have hl := hR.hl
  obtain ⟨z, hz⟩ : ∃ z, f / 8 * 8 = z := ⟨_, rfl⟩
  have HDN : Hid (∀ W, Calls Try.prog 35 #[.int .i64 f, .int .i64 3] W fun e w' => e = .returned (.int .i64 z) ∧ W = w') := fun W => by rw [← hz]; exact (down_int f hf W).mono fun e w' h => ⟨h.1, h.2.symm⟩
  rw [hz]
  have t0 : decide (f < 0) = false := by simp; omega
  clear hf hz h0
  rcases hR.hv.any with ⟨rfl, rfl⟩ | ⟨q, cap, rfl, hBg, hcap, hmax, hgl⟩
  · go_enter Try.func24, Try.ntmps24
    go_wp2_with (go_at_call 35; go_loud (refine (HDN.out _).mono ?_; rintro e w1 ⟨rfl, rfl⟩))
    refine wp_loop_once ?_
    go_wp2
    exact bodyPost_ret (v := .tuple #[rvV rv0, .bool false]) (by simp [results, Try.results24, go_sem, rvV, rv0]) rfl ⟨rfl, (by (repeat (first | exact Keep.refl _ _ | exact Keep.refl _ _ | refine Keep.drew ?_ | refine Keep.drewN ?_ _ | refine Keep.alloc ?_ _ | refine Keep.setNew ?_ (by omega) _)); done)⟩
  · have HZ0 := Lib.hid (cells4 (heap_alloc_new w (.cells #[.int .i64 0, .int .i64 0, .int .i64 0, .int .u8 0] 31)))
    have KZ : Hid (Keep (fun _ => False) w (w.alloc (.cells #[.int .i64 0, .int .i64 0, .int .i64 0, .int .u8 0] 31))) := (Keep.refl _ _).alloc _
    go_enter Try.func24, Try.ntmps24
    go_wp2_with (go_at_call 35; go_loud (refine (HDN.out _).mono ?_; rintro e w1 ⟨rfl, rfl⟩))
    go_loopw [23] (fun i wr => ∃ k : Nat, k ≤ L.length ∧ i = .int .i64 k ∧ owF L z = owF (L.drop k) z ∧ Keep (fun _ => False) (w.alloc (.cells #[.int .i64 0, .int .i64 0, .int .i64 0, .int .u8 0] 31)) wr) (fun i _ => L.length - (intOf i).toNat)
    case atStart => exact ⟨0, by omega, rfl, rfl, Keep.refl _ _⟩
    case round =>
      obtain ⟨k, hk, rfl, hr, hkeep⟩ := hrel
      have HR := Lib.hid hr
      have HK := Lib.hid hkeep
      clear hr hkeep
      by_cases hlt : k < L.length
      · obtain ⟨c0, c1, c2, c3⟩ := rv_cells (hR.hv.keep (KZ.out.trans HK.out) (fun _ _ => id)) hlt
        obtain ⟨t, ht⟩ : ∃ t, (L[k].f == z) = t := ⟨_, rfl⟩
        have HT := Lib.hid ht
        cases t with
        | true =>
          have HF := Lib.hid (owF_hit hlt HR.out ht)
          obtain ⟨z0, z1, z2, z3⟩ := HZ0.out
          have KA : Keep (fun _ => False) (w.alloc (.cells #[.int .i64 0, .int .i64 0, .int .i64 0, .int .u8 0] 31)) (wr.alloc (.cells #[.int .i64 L[k].s, .int .i64 L[k].p, .int .i64 L[k].f, .int .u8 L[k].b] 31)) := HK.out.alloc _
          have y0 := (KA.cell (block_lt_cell z0) id).trans z0
          have y1 := (KA.cell (block_lt_cell z1) id).trans z1
          have y2 := (KA.cell (block_lt_cell z2) id).trans z2
          have y3 := (KA.cell (block_lt_cell z3) id).trans z3
          have f0 : ∀ i, (wr.alloc (.cells #[.int .i64 L[k].s, .int .i64 L[k].p, .int .i64 L[k].f, .int .u8 L[k].b] 31)).frozen? ⟨w.heap.size, i, none⟩ = false := fun i => frozen_block ((KA.block _ (block_lt_cell z0) id).trans (heap_alloc_new w _))
          have f1 := f0 0
          have f2 := f0 1
          have f3 := f0 2
          have f4 := f0 3
          clear f0
          clear z0 z1 z2 z3 KA
          go_wp2
          have hlz := block_lt_cell y0
          exact bodyPost_ret (v := .tuple #[rvV L[k], .bool true]) (by simp [results, Try.results24, go_sem, rvV, y0, y1, y2, y3]) rfl ⟨by rw [HF.out]; rfl, (by (repeat (first | exact KZ.out.trans HK.out | exact Keep.refl _ _ | refine Keep.drew ?_ | refine Keep.drewN ?_ _ | refine Keep.alloc ?_ _ | refine Keep.setNew ?_ (by omega) _)); done)⟩
        | false =>
          have HF := Lib.hid (owF_drop hlt HR.out ht)
          go_wp2
          go_roundw
          case rel => exact ⟨k + 1, by omega, by go_num, HF.out, (by (repeat (first | exact HK.out | exact Keep.refl _ _ | refine Keep.drew ?_ | refine Keep.drewN ?_ _ | refine Keep.alloc ?_ _ | refine Keep.setNew ?_ (by omega) _)); done)⟩
          case measure => simp [intOf]; omega
      · obtain rfl : k = L.length := by omega
        have e1 : owF L z = none := by rw [HR.out, List.drop_length]; rfl
        obtain ⟨z0, z1, z2, z3⟩ := HZ0.out
        have y0 := (HK.out.cell (block_lt_cell z0) id).trans z0
        have y1 := (HK.out.cell (block_lt_cell z1) id).trans z1
        have y2 := (HK.out.cell (block_lt_cell z2) id).trans z2
        have y3 := (HK.out.cell (block_lt_cell z3) id).trans z3
        have f0 : ∀ i, wr.frozen? ⟨w.heap.size, i, none⟩ = false := fun i => frozen_block ((HK.out.block _ (block_lt_cell z0) id).trans (heap_alloc_new w _))
        have f1 := f0 0
        have f2 := f0 1
        have f3 := f0 2
        have f4 := f0 3
        clear f0
        clear z0 z1 z2 z3
        go_wp2
        have hlz := block_lt_cell y0
        exact bodyPost_ret (v := .tuple #[rvV rv0, .bool false]) (by simp [results, Try.results24, go_sem, rvV, rv0, y0, y1, y2, y3]) rfl ⟨by rw [e1]; rfl, (by (repeat (first | exact KZ.out.trans HK.out | exact Keep.refl _ _ | refine Keep.drew ?_ | refine Keep.drewN ?_ _ | refine Keep.alloc ?_ _ | refine Keep.setNew ?_ (by omega) _)); done)⟩

end Go.Proofs.Ytmbgebmhdofdaaa
