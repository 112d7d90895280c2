/- CompoundNone: the walk. -/
import Derived.Test.YtdomdjfecnbenaaI
import Derived.Test.YtdomdjfecnbenaaArgs
set_option linter.unusedVariables false
set_option linter.unusedSimpArgs false
namespace Go.Proofs.Ytdomdjfecnbenaa
open Go.RowKit Go.Own

theorem s5 {w W : World} {b c d : Nat} {x1 y0 y1 z0 z1 : Value} (K : Keep (fun _ => False) w W)
    (hx : w.cell? ⟨b, 1, none⟩ = some x1) (hy : w.cell? ⟨c, 0, none⟩ = some y0 ∧ w.cell? ⟨c, 1, none⟩ = some y1) (hz : w.cell? ⟨d, 0, none⟩ = some z0 ∧ w.cell? ⟨d, 1, none⟩ = some z1) :
    W.cell? ⟨b, 1, none⟩ = some x1 ∧ W.cell? ⟨c, 0, none⟩ = some y0 ∧ W.cell? ⟨c, 1, none⟩ = some y1 ∧ W.cell? ⟨d, 0, none⟩ = some z0 ∧ W.cell? ⟨d, 1, none⟩ = some z1 := by
  have f : ∀ {b i : Nat} {x : Value}, w.cell? ⟨b, i, none⟩ = some x → W.cell? ⟨b, i, none⟩ = some x := fun h => (K.cell (block_lt_cell h) id).trans h
  exact ⟨f hx, f hy.1, f hy.2, f hz.1, f hz.2⟩

set_option maxHeartbeats 2000000 in
theorem none_walk (a f : Int) (w : World) : Calls Try.prog 7 #[.agg #[.int .i64 a, .int .i64 f]] w fun e w' => e = .returned (.bool true) ∧ Below w.heap.size w w' := by
  have KW : Hid (Keep (fun _ => False) w (w.alloc (.cells #[.int .i64 a, .int .i64 f] 57))) := (Keep.refl _ _).alloc _
  have HW : Hid ((w.alloc (.cells #[.int .i64 a, .int .i64 f] 57)).heap[w.heap.size]? = some (.cells #[.int .i64 a, .int .i64 f] 57 (0, 0))) := heap_alloc_new w _
  obtain ⟨x0, x1⟩ := cells2 HW.out
  go_enter Try.func7, Try.ntmps7
  go_wp2_with (first | (go_at_call 11; refine (lose_nil _ _).mono ?_; rintro e w1 ⟨rfl, rfl⟩) | (go_at_call 16; refine (split_nil _ _).mono ?_; rintro e w1 ⟨rfl, rfl⟩) | (go_at_call 23; go_loud (refine (get_nil _ _).mono ?_; unfold cpV; rintro e w3 ⟨rfl, hk3⟩; have K3 : Hid (Keep (fun _ => False) w (w3.alloc (.cells #[.int .i64 0, .int .u8 0] 39))) := (KW.out.trans hk3).alloc _; have K3' : Hid (Keep (fun _ => False) (w.alloc (.cells #[.int .i64 a, .int .i64 f] 57)) (w3.alloc (.cells #[.int .i64 0, .int .u8 0] 39))) := hk3.alloc _; clear hk3)) | (go_at_call 15; go_loud (refine (next_nil _).mono ?_; unfold cpV; rintro e w5 ⟨rfl, hk5⟩; have K5 : Hid (Keep (fun _ => False) (w3.alloc (.cells #[.int .i64 0, .int .u8 0] 39)) (w5.alloc (.cells #[.int .i64 0, .int .u8 0] 39))) := hk5.alloc _; clear hk5)))
  have HX := Lib.hid (cells2 (((K3'.out.trans K5.out).block _ (block_lt HW.out) id).trans HW.out)).2
  have HY := Lib.hid (cells2 ((K5.out.block w3.heap.size (by simp) id).trans (heap_alloc_new w3 _)))
  have HZ := Lib.hid (cells2 (heap_alloc_new w5 (.cells #[.int .i64 0, .int .u8 0] 39)))
  have KA := Lib.hid (K3.out.trans K5.out)
  clear x0 x1 K3 K3' K5
  obtain ⟨nx, hnx⟩ : ∃ x, w.heap.size = x := ⟨_, rfl⟩
  obtain ⟨ny, hny⟩ : ∃ x, w3.heap.size = x := ⟨_, rfl⟩
  obtain ⟨nz, hnz⟩ : ∃ x, w5.heap.size = x := ⟨_, rfl⟩
  obtain ⟨wf, hwf⟩ : ∃ x, w5.alloc (.cells #[.int .i64 0, .int .u8 0] 39) = x := ⟨_, rfl⟩
  rw [hwf] at HX HY HZ KA ⊢
  rw [hnx] at HX ⊢
  rw [hny] at HY ⊢
  rw [hnz] at HZ ⊢
  go_wp2_with (first | (go_at_call 9; refine (awake_any _).mono ?_; rintro e w7 ⟨rfl, hk5⟩; have HK5 : Hid (Keep (fun _ => False) wf w7) := Keep.trans (by (repeat (first | exact Keep.refl _ _ | exact Keep.refl _ _ | refine Keep.drew ?_ | refine Keep.drewN ?_ _ | refine Keep.alloc ?_ _ | refine Keep.setNew ?_ (by omega) _)); done) hk5; clear hk5; obtain ⟨h1, h2, h3, h4, h5⟩ := s5 HK5.out HX.out HY.out HZ.out) | (go_at_call 19; refine (lost_nil _).mono ?_; rintro e w6 ⟨rfl, rfl⟩) | (go_at_call 14; refine (queue_nil _).mono ?_; rintro e w6 ⟨rfl, rfl⟩) | (go_at_call 12; refine (all_nil _).mono ?_; rintro e w6 ⟨rfl, rfl⟩) | (go_at_call 10; refine (make_nil _ _).mono ?_; rintro e w8 ⟨rfl, rfl⟩) | (go_at_call 21; refine (regain_nil _ _).mono ?_; rintro e w9 ⟨rfl, rfl⟩))
  go_ret
  exact ⟨rfl, hnx ▸ (KA.out.trans HK5.out).below⟩

end Go.Proofs.Ytdomdjfecnbenaa
