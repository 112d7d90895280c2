/- MovingNone: the walk. -/
import Derived.Test.YtnlalihapmlceaaN
import Derived.Test.YtnlalihapmlceaaK
set_option linter.unusedVariables false
set_option linter.unusedSimpArgs false
namespace Go.Proofs.Ytnlalihapmlceaa
open Go.RowKit Go.Own

theorem k4 {S : Nat → Prop} {w w' : World} {b e : Nat} {x0 x1 x2 x3 : Value} {z : Nat × Nat} (k : Keep S w w') (hb : w.heap[b]? = some (.cells #[x0, x1, x2, x3] e z)) (hs : ¬ S b) :
    w'.cell? ⟨b, 0, none⟩ = some x0 ∧ w'.cell? ⟨b, 1, none⟩ = some x1 ∧ w'.cell? ⟨b, 2, none⟩ = some x2 ∧ w'.cell? ⟨b, 3, none⟩ = some x3 := by
  have h := (k.block b (block_lt hb) hs).trans hb
  simp [cell_block h]

set_option maxHeartbeats 400000 in
theorem meet_nil' (f : Int) (w : World) :
    Calls Try.prog 15 #[.pointer none, .int .i64 f] w fun e w' => e = .returned (.int .i64 0) ∧ w = w' := by
  go_enter Try.func15, Try.ntmps15
  go_wp2_with (go_at_call 33; refine (of_nil _ _).mono ?_; rintro e w1 ⟨rfl, rfl⟩)
  go_ret
  exact ⟨rfl, rfl⟩

set_option maxHeartbeats 400000 in
theorem copy_nil' (f : Int) (w : World) :
    Calls Try.prog 18 #[.pointer none, .int .i64 f] w fun e w' => e = .returned (.int .i64 1) ∧ w = w' := by
  go_enter Try.func18, Try.ntmps18
  go_wp2_with (go_at_call 33; refine (of_nil _ _).mono ?_; rintro e w1 ⟨rfl, rfl⟩)
  go_ret
  exact ⟨rfl, rfl⟩

theorem sN {w W : World} {b n : Nat} {x1 x2 z0 z1 z2 z3 : Value} (K : Keep (fun _ => False) w W)
    (a1 : w.cell? ⟨b, 1, none⟩ = some x1) (a2 : w.cell? ⟨b, 2, none⟩ = some x2) (b0 : w.cell? ⟨n, 0, none⟩ = some z0) (b1 : w.cell? ⟨n, 1, none⟩ = some z1) (b2 : w.cell? ⟨n, 2, none⟩ = some z2) (b3 : w.cell? ⟨n, 3, none⟩ = some z3) :
    W.cell? ⟨b, 1, none⟩ = some x1 ∧ W.cell? ⟨b, 2, none⟩ = some x2 ∧ W.cell? ⟨n, 0, none⟩ = some z0 ∧ W.cell? ⟨n, 1, none⟩ = some z1 ∧ W.cell? ⟨n, 2, none⟩ = some z2 ∧ W.cell? ⟨n, 3, none⟩ = some z3 :=
  ⟨(K.cell (block_lt_cell a1) id).trans a1, (K.cell (block_lt_cell a2) id).trans a2, (K.cell (block_lt_cell b0) id).trans b0, (K.cell (block_lt_cell b1) id).trans b1, (K.cell (block_lt_cell b2) id).trans b2, (K.cell (block_lt_cell b3) id).trans b3⟩

set_option maxHeartbeats 2000000 in
theorem none_walk (a f t : Int) (w : World) : Calls Try.prog 8 #[.agg #[.int .i64 a, .int .i64 f, .int .i64 t]] w fun e w' => e = .returned (.bool true) ∧ Keep (fun _ => False) w w' := by
  have hN : (w.alloc (.cells #[.int .i64 a, .int .i64 f, .int .i64 t] 24)).heap[w.heap.size]? = some (.cells #[.int .i64 a, .int .i64 f, .int .i64 t] 24 (0, 0)) := heap_alloc_new w _
  have KW : Hid (Keep (fun _ => False) w (w.alloc (.cells #[.int .i64 a, .int .i64 f, .int .i64 t] 24))) := (Keep.refl _ _).alloc _
  go_enter Try.func8, Try.ntmps8
  go_wp2_with (first | (go_at_call 19; go_loud (refine (fin_nil _ _).mono ?_; rintro e w1 ⟨rfl, hk1⟩; obtain ⟨x0, x1, x2⟩ := kept3 hk1 hN id; have K1 := Lib.hid hk1; clear hk1)) | (go_at_call 20; go_loud (refine (abort_nil _ _).mono ?_; rintro e w2 ⟨rfl, hk2⟩; obtain ⟨x0, x1, x2⟩ := kept3 (K1.out.trans hk2) hN id; have K2 := Lib.hid (K1.out.trans hk2); clear hk2)) | (go_at_call 13; go_loud (refine (find_nil _ _).mono ?_; rintro e w3 ⟨rfl, hk3⟩; obtain ⟨x0, x1, x2⟩ := kept3 (K2.out.trans hk3) hN id; have K3 := Lib.hid (K2.out.trans hk3); clear hk3; unfold mvV mv0)) | (go_at_call 21; go_loud (refine (tick_nil _).mono ?_; rintro e w4 ⟨rfl, rfl⟩)))
  have KF : Hid (Keep (fun _ => False) w3 (w3.alloc (.cells #[.int .i64 0, .int .i64 0, .int .i64 0, .int .i64 0] 31))) := (Keep.refl _ _).alloc _
  obtain ⟨b0, b1, b2, b3⟩ := cells4 (heap_alloc_new w3 (.cells #[.int .i64 0, .int .i64 0, .int .i64 0, .int .i64 0] 31))
  have a1 := (KF.out.cell (block_lt_cell x1) id).trans x1
  have a2 := (KF.out.cell (block_lt_cell x2) id).trans x2
  have KA := Lib.hid ((KW.out.trans K3.out).trans KF.out)
  obtain ⟨wf, hwf⟩ : ∃ x, w3.alloc (.cells #[.int .i64 0, .int .i64 0, .int .i64 0, .int .i64 0] 31) = x := ⟨_, rfl⟩
  rw [hwf] at KA b0 b1 b2 b3 a1 a2 ⊢
  obtain ⟨nf, hnf⟩ : ∃ x, w3.heap.size = x := ⟨_, rfl⟩
  rw [hnf] at b0 b1 b2 b3 ⊢
  obtain ⟨nb, hnb⟩ : ∃ x, w.heap.size = x := ⟨_, rfl⟩
  rw [hnb] at a1 a2 ⊢
  clear hwf hnf hnb KF x0 x1 x2 K3 KW hN
  go_region_held3 (fun w' => w'.cell? ⟨nb, 1, none⟩ = some (.int .i64 f) ∧ w'.cell? ⟨nb, 2, none⟩ = some (.int .i64 t) ∧ w'.cell? ⟨nf, 0, none⟩ = some (.int .i64 0) ∧ w'.cell? ⟨nf, 1, none⟩ = some (.int .i64 0) ∧ w'.cell? ⟨nf, 2, none⟩ = some (.int .i64 0) ∧ w'.cell? ⟨nf, 3, none⟩ = some (.int .i64 0))
    ((refine sN ?_ a1 a2 b0 b1 b2 b3; first | ((repeat (first | exact Keep.refl _ _ | exact Keep.refl _ _ | refine Keep.drew ?_ | refine Keep.drewN ?_ _ | refine Keep.alloc ?_ _ | refine Keep.setNew ?_ (by omega) _)); done) | ((repeat (first | exact HK5.out | exact Keep.refl _ _ | refine Keep.drew ?_ | refine Keep.drewN ?_ _ | refine Keep.alloc ?_ _ | refine Keep.setNew ?_ (by omega) _)); done) | ((repeat (first | exact HK8.out | exact Keep.refl _ _ | refine Keep.drew ?_ | refine Keep.drewN ?_ _ | refine Keep.alloc ?_ _ | refine Keep.setNew ?_ (by omega) _)); done)))
    (first | (go_at_call 10; refine (awake_any _).mono ?_; rintro e w5 ⟨rfl, hk5⟩; have HK5 : Hid (Keep (fun _ => False) wf w5) := Keep.trans (by (repeat (first | exact Keep.refl _ _ | exact Keep.refl _ _ | refine Keep.drew ?_ | refine Keep.drewN ?_ _ | refine Keep.alloc ?_ _ | refine Keep.setNew ?_ (by omega) _)); done) hk5; clear hk5) | (go_at_call 15; refine (meet_nil' _ _).mono ?_; rintro e w6 ⟨rfl, rfl⟩) | (go_at_call 26; refine (old_nil _ _).mono ?_; rintro e w6 ⟨rfl, rfl⟩) | (go_at_call 14; refine (all_nil _).mono ?_; rintro e w6 ⟨rfl, rfl⟩) | (go_at_call 17; refine (begin_nil _ _ _).mono ?_; rintro e w8 ⟨rfl, hk8⟩; have HK8 : Hid (Keep (fun _ => False) wf w8) := HK5.out.trans hk8; clear hk8) | (go_at_call 18; refine (copy_nil' _ _).mono ?_; rintro e w9 ⟨rfl, rfl⟩))
  go_wp2
  go_ret
  exact ⟨rfl, KA.out.trans HK8.out⟩

theorem none_row (a f t : Int) (w : World) : Calls Try.prog 8 #[.agg #[.int .i64 a, .int .i64 f, .int .i64 t]] w fun e w' => e = .returned (.bool true) ∧ Below w.heap.size w w' :=
  (none_walk a f t w).mono fun _ _ h => ⟨h.1, h.2.below⟩

end Go.Proofs.Ytnlalihapmlceaa
