/- ResvNone: the walk. -/
import Derived.Test.YtmbgebmhdofdaaaH
import Derived.Test.YtmbgebmhdofdaaaArgs
set_option linter.unusedVariables false
set_option linter.unusedSimpArgs false
namespace Go.Proofs.Ytmbgebmhdofdaaa
open Go.RowKit Go.Own

theorem s16 {w W : World} {a b c d : Nat} {x1 x2 x3 : Value} {y0 y1 y2 y3 z0 z1 z2 z3 t0 t1 t2 t3 : Value} (K : Keep (fun _ => False) w W)
    (hx : w.cell? ⟨a, 1, none⟩ = some x1 ∧ w.cell? ⟨a, 2, none⟩ = some x2 ∧ w.cell? ⟨a, 3, none⟩ = some x3)
    (hy : w.cell? ⟨b, 0, none⟩ = some y0 ∧ w.cell? ⟨b, 1, none⟩ = some y1 ∧ w.cell? ⟨b, 2, none⟩ = some y2 ∧ w.cell? ⟨b, 3, none⟩ = some y3)
    (hz : w.cell? ⟨c, 0, none⟩ = some z0 ∧ w.cell? ⟨c, 1, none⟩ = some z1 ∧ w.cell? ⟨c, 2, none⟩ = some z2 ∧ w.cell? ⟨c, 3, none⟩ = some z3)
    (ht : w.cell? ⟨d, 0, none⟩ = some t0 ∧ w.cell? ⟨d, 1, none⟩ = some t1 ∧ w.cell? ⟨d, 2, none⟩ = some t2 ∧ w.cell? ⟨d, 3, none⟩ = some t3) :
    (W.cell? ⟨a, 1, none⟩ = some x1 ∧ W.cell? ⟨a, 2, none⟩ = some x2 ∧ W.cell? ⟨a, 3, none⟩ = some x3) ∧
    (W.cell? ⟨b, 0, none⟩ = some y0 ∧ W.cell? ⟨b, 1, none⟩ = some y1 ∧ W.cell? ⟨b, 2, none⟩ = some y2 ∧ W.cell? ⟨b, 3, none⟩ = some y3) ∧
    (W.cell? ⟨c, 0, none⟩ = some z0 ∧ W.cell? ⟨c, 1, none⟩ = some z1 ∧ W.cell? ⟨c, 2, none⟩ = some z2 ∧ W.cell? ⟨c, 3, none⟩ = some z3) ∧
    (W.cell? ⟨d, 0, none⟩ = some t0 ∧ W.cell? ⟨d, 1, none⟩ = some t1 ∧ W.cell? ⟨d, 2, none⟩ = some t2 ∧ W.cell? ⟨d, 3, none⟩ = some t3) := by
  have f : ∀ {b i : Nat} {x : Value}, w.cell? ⟨b, i, none⟩ = some x → W.cell? ⟨b, i, none⟩ = some x := fun h => (K.cell (block_lt_cell h) id).trans h
  exact ⟨⟨f hx.1, f hx.2.1, f hx.2.2⟩, ⟨f hy.1, f hy.2.1, f hy.2.2.1, f hy.2.2.2⟩, ⟨f hz.1, f hz.2.1, f hz.2.2.1, f hz.2.2.2⟩, ⟨f ht.1, f ht.2.1, f ht.2.2.1, f ht.2.2.2⟩⟩

set_option maxHeartbeats 2000000 in
theorem none_walk (a s y f : Int) (w : World) : Calls Try.prog 7 #[.agg #[.int .i64 a, .int .i64 s, .int .i64 y, .int .i64 f]] w fun e w' => e = .returned (.bool true) ∧ Below w.heap.size w w' := by
  have KW : Hid (Keep (fun _ => False) w (w.alloc (.cells #[.int .i64 a, .int .i64 s, .int .i64 y, .int .i64 f] 59))) := (Keep.refl _ _).alloc _
  have HW : Hid ((w.alloc (.cells #[.int .i64 a, .int .i64 s, .int .i64 y, .int .i64 f] 59)).heap[w.heap.size]? = some (.cells #[.int .i64 a, .int .i64 s, .int .i64 y, .int .i64 f] 59 (0, 0))) := heap_alloc_new w _
  obtain ⟨x0, x1, x2, x3⟩ := cells4 HW.out
  go_enter Try.func7, Try.ntmps7
  go_wp2_with (first | (go_at_call 14; refine (fill_nil _ _ _).mono ?_; rintro e w1 ⟨rfl, rfl⟩) | (go_at_call 16; refine (break_nil _ _ _).mono ?_; rintro e w1 ⟨rfl, rfl⟩) | (go_at_call 23; go_loud (refine (find_nil _ _ _).mono ?_; unfold rvV rv0; rintro e w3 ⟨rfl, hk3⟩; have K3 : Hid (Keep (fun _ => False) (w.alloc (.cells #[.int .i64 a, .int .i64 s, .int .i64 y, .int .i64 f] 59)) (w3.alloc (.cells #[.int .i64 0, .int .i64 0, .int .i64 0, .int .u8 0] 31))) := hk3.alloc _; clear hk3; have HY := Lib.hid (heap_alloc_new w3 (.cells #[.int .i64 0, .int .i64 0, .int .i64 0, .int .u8 0] 31)); obtain ⟨x0, x1, x2, x3⟩ := cells4 ((K3.out.block _ (block_lt HW.out) id).trans HW.out))) | (go_at_call 24; go_loud (refine (owner_nil _ _).mono ?_; unfold rvV rv0; rintro e w5 ⟨rfl, hk5⟩; have K5 : Hid (Keep (fun _ => False) (w3.alloc (.cells #[.int .i64 0, .int .i64 0, .int .i64 0, .int .u8 0] 31)) (w5.alloc (.cells #[.int .i64 0, .int .i64 0, .int .i64 0, .int .u8 0] 31))) := hk5.alloc _; clear hk5; have HZ := Lib.hid (heap_alloc_new w5 (.cells #[.int .i64 0, .int .i64 0, .int .i64 0, .int .u8 0] 31)))) | (go_at_call 17; go_loud (refine (oldest_nil _).mono ?_; unfold rvV rv0; rintro e w7 ⟨rfl, hk7⟩; have K7 : Hid (Keep (fun _ => False) (w5.alloc (.cells #[.int .i64 0, .int .i64 0, .int .i64 0, .int .u8 0] 31)) (w7.alloc (.cells #[.int .i64 0, .int .i64 0, .int .i64 0, .int .u8 0] 31))) := hk7.alloc _; clear hk7; have HT := Lib.hid (heap_alloc_new w7 (.cells #[.int .i64 0, .int .i64 0, .int .i64 0, .int .u8 0] 31)))) | (go_at_call 9; go_loud (refine (awake_any _).mono ?_; rintro e w9 ⟨rfl, hk9⟩; have K9 := Lib.hid hk9; clear hk9; obtain ⟨⟨p1, p2, p3⟩, ⟨q0, q1, q2, q3⟩, ⟨r0, r1, r2, r3⟩, ⟨t0, t1, t2, t3⟩⟩ := s16 K9.out (cells4 (((K3.out.trans (K5.out.trans K7.out)).block _ (block_lt HW.out) id).trans HW.out)).2 (cells4 (((K5.out.trans K7.out).block _ (block_lt HY.out) id).trans HY.out)) (cells4 ((K7.out.block _ (block_lt HZ.out) id).trans HZ.out)) (cells4 HT.out))) | (go_at_call 11; refine (held_nil _).mono ?_; rintro e w6 ⟨rfl, rfl⟩) | (go_at_call 10; refine (all_nil _).mono ?_; rintro e w6 ⟨rfl, rfl⟩) | (go_at_call 13; refine (make_nil _ _ _ _).mono ?_; rintro e w8 ⟨rfl, rfl⟩) | (go_at_call 15; refine (clear_nil _ _ _).mono ?_; rintro e w9 ⟨rfl, rfl⟩))
  go_ret
  exact ⟨rfl, ((((KW.out.trans K3.out).trans K5.out).trans K7.out).trans K9.out).below⟩

end Go.Proofs.Ytmbgebmhdofdaaa
