/- Compounds: Lost, Split, Numbers, awake. -/
import Derived.Test.YtdomdjfecnbenaaG
import Derived.BigQuiet
set_option linter.unusedVariables false
set_option linter.unusedSimpArgs false
namespace Go.Proofs.Ytdomdjfecnbenaa
open Go.RowKit Go.Own

set_option maxHeartbeats 400000 in
theorem lost_nil (w : World) : Calls Try.prog 19 #[.pointer none] w fun e w' => e = .returned (.int .i64 0) ∧ w = w' := by
  go_enter Try.func19, Try.ntmps19
  go_wp2_with (go_at_call 12; refine (all_nil _).mono ?_; rintro e w1 ⟨rfl, rfl⟩)
  refine wp_loop_once ?_
  go_wp2
  go_ret
  exact ⟨rfl, rfl⟩

set_option maxHeartbeats 400000 in
theorem split_nil (f : Int) (w : World) : Calls Try.prog 16 #[.pointer none, .int .i64 f] w fun e w' => e = .returned (.tuple #[.slice none 0 0, .int .i64 1]) ∧ w = w' := by
  go_enter Try.func16, Try.ntmps16
  go_wp2_with (go_at_call 28; refine (find_nil _ _).mono ?_; rintro e w1 ⟨rfl, rfl⟩)
  go_ret2
  exact ⟨rfl, rfl⟩

set_option maxHeartbeats 400000 in
theorem queue_nil (w : World) : Calls Try.prog 14 #[.pointer none] w fun e w' => e = .returned (.slice none 0 0) ∧ w = w' := by
  go_enter Try.func14, Try.ntmps14
  go_wp2
  go_ret
  exact ⟨rfl, rfl⟩

set_option maxHeartbeats 400000 in
theorem regain_nil (f : Int) (w : World) : Calls Try.prog 21 #[.pointer none, .int .i64 f] w fun e w' => e = .returned (.int .i64 1) ∧ w = w' := by
  go_enter Try.func21, Try.ntmps21
  go_wp2_with (go_at_call 28; refine (find_nil _ _).mono ?_; rintro e w1 ⟨rfl, rfl⟩)
  go_ret
  exact ⟨rfl, rfl⟩

set_option maxHeartbeats 1000000 in
theorem lost_zero (B p : Nat) (v u : Value) (Q : List Int) (w : World) (hR : RepC w B p v u [] Q) : Calls Try.prog 19 #[.pointer (some ⟨p, 0, none⟩)] w fun e w' => e = .returned (.int .i64 0) ∧ Keep (fun _ => False) w w' := by
  go_enter Try.func19, Try.ntmps19
  go_wp2_with (go_at_call 12; refine (all_any B p v u [] Q _ hR).mono ?_; rintro e w1 ⟨v1, rfl, hO, hk1⟩; obtain ⟨a1, c1, rfl, -⟩ := hO.slice)
  refine wp_loop_once ?_
  go_wp2
  go_ret
  exact ⟨rfl, hk1⟩

set_option maxHeartbeats 1000000 in
theorem lost_two (B p : Nat) (v u : Value) (Q : List Int) (w : World) (hR : RepC w B p v u [⟨8, 6⟩] Q) : Calls Try.prog 19 #[.pointer (some ⟨p, 0, none⟩)] w fun e w' => e = .returned (.int .i64 2) ∧ Keep (fun _ => False) w w' := by
  go_enter Try.func19, Try.ntmps19
  go_wp2_with (go_at_call 12; refine (all_any B p v u [⟨8, 6⟩] Q _ hR).mono ?_; rintro e w1 ⟨v1, rfl, hO, hk1⟩; have HO := Lib.hid hO; have HK1 := Lib.hid hk1; obtain ⟨g, cap, rfl, hBg, hcap, hgl⟩ := hO.form (by simp); clear hO hk1)
  go_loopw [3, 9] (fun n i wr => ∃ k : Nat, k ≤ 1 ∧ i = .int .i64 k ∧ n = .int .i64 (2 * k : Nat) ∧ Keep (fun _ => False) w1 wr) (fun _ i _ => 1 - (intOf i).toNat)
  case atStart => exact ⟨0, by omega, rfl, rfl, Keep.refl _ _⟩
  case round =>
    obtain ⟨k, hk, rfl, rfl, hkeep⟩ := hrel
    have HK := Lib.hid hkeep
    clear hkeep
    have hO2 := Lib.hid (HO.out.keep HK.out (fun _ _ => id))
    obtain ⟨c0, c1⟩ := cp_cells (i := 0) hO2.out (by simp)
    simp only [List.getElem_cons_zero, Nat.zero_mul, Nat.zero_add] at c0 c1
    have hk2 : k = 0 ∨ k = 1 := by omega
    rcases hk2 with rfl | rfl
    · go_wp2_with (go_at_call 32; go_loud (refine (lost86 _).mono ?_; rintro e w3 ⟨v3, rfl, hO3, hk3⟩; obtain ⟨a3, c3, rfl, -⟩ := hO3.slice; have HK3 : Hid (Keep (fun _ => False) wr w3) := Keep.trans (by (repeat (first | exact Keep.refl _ _ | exact Keep.refl _ _ | refine Keep.drew ?_ | refine Keep.drewN ?_ _ | refine Keep.alloc ?_ _ | refine Keep.setNew ?_ (by omega) _)); done) hk3; clear hO3 hk3))
      go_roundw
      case rel => exact ⟨1, by omega, by go_num, by go_num, HK.out.trans HK3.out⟩
      case measure => simp [intOf]
    · go_wp2
      go_ret
      exact ⟨rfl, HK1.out.trans HK.out⟩

set_option maxHeartbeats 2000000 in
theorem split86 (B p : Nat) (v u : Value) (Q : List Int) (w : World) (hB : B ≤ w.heap.size) (hR : RepC w B p v u [⟨8, 6⟩] Q) :
    Calls Try.prog 16 #[.pointer (some ⟨p, 0, none⟩), .int .i64 15] w fun e w' => ∃ v' u' y, e = .returned (.tuple #[y, .int .i64 0]) ∧ RepC w' B p v' u' [] (lvQ Q 8) ∧ OwnL inE w' w.heap.size 3 y [9, 10] ∧ Keep (fun x => x = p) w w' := by
  obtain ⟨g, cap, rfl, hBg, hcap, hgl⟩ := hR.hv.form (by simp)
  go_enter Try.func16, Try.ntmps16
  go_wp2_with (first | (go_at_call 28; go_loud (refine (find_yes B p _ u _ Q 15 0 (by omega) _ hR rfl).mono ?_; rintro e w1 ⟨rfl, hk1⟩; have HR1 := Lib.hid (hR.keep0 hk1); have HK1 := Lib.hid hk1; clear hk1; have hc0 := HR1.out.c0; obtain ⟨c0, c1⟩ := cp_cells (i := 0) HR1.out.hv (by simp); simp only [List.getElem_cons_zero, Nat.zero_mul, Nat.zero_add] at c0 c1; have hlen : ([⟨8, 6⟩] : List Cp).length = 1 := rfl; rw [hlen] at hc0))
                     | (go_at_call 32; go_loud (refine (lost86 _).mono ?_; rintro e w3 ⟨v3, rfl, hO3, hk3⟩; have HO3 := Lib.hid hO3; have HR3 := Lib.hid (HR1.out.keep0 hk3); have HK3 := Lib.hid (HK1.out.trans hk3); have HK13 := Lib.hid hk3; clear hO3 hk3))
                     | (go_at_call 30; go_loud (refine (drop_any B p 0 _ u _ Q _ (by have := HK3.out.size; omega) HR3.out (by simp)).mono ?_; rintro e w4 ⟨rfl, v4, u4, hR4, hk4, -, -⟩; have HR4 := Lib.hid hR4; have HK4 := Lib.hid hk4; clear hR4 hk4)))
  go_ret2
  have hs1 := HK1.out.size
  have hpl := block_lt HR1.out.hp
  refine ⟨v4, u4, v3, rfl, HR4.out, ?_, (HK3.out.mono (fun _ _ h => h.elim)).trans HK4.out⟩
  exact (HO3.out.base (C := w.heap.size) (fun x hx => by have := (HO3.out.lt x hx).1; omega)).keep HK4.out (fun x hx => by have := (HO3.out.lt x hx).1; omega)

end Go.Proofs.Ytdomdjfecnbenaa
