/- Reservations: where one is; open. -/
import Derived.Test.YtmbgebmhdofdaaaA
set_option linter.unusedVariables false
set_option linter.unusedSimpArgs false
namespace Go.Proofs.Ytmbgebmhdofdaaa
open Go.RowKit Go.Own

set_option maxHeartbeats 400000 in
theorem index_nil (a : Option Addr) (c : Nat) (fv : Value) (w : World) : Calls Try.prog 42 #[.slice a 0 c, fv] w fun e w' => e = .returned (.int .i64 (-1)) ∧ w = w' := by
  go_enter Try.func42, Try.ntmps42
  go_wp2
  refine wp_loop_once ?_
  go_wp2
  go_ret
  exact ⟨rfl, rfl⟩

set_option maxHeartbeats 1000000 in
theorem index_one (B b g cap : Nat) (x : Rv) (w : World) (hv : OwnL rvE w B 31 (.slice (some ⟨g, 0, none⟩) 1 cap) [x]) (hb : w.cell? ⟨b, 0, none⟩ = some (.int .i64 x.s) ∧ w.cell? ⟨b, 1, none⟩ = some (.int .i64 x.p)) :
    Calls Try.prog 42 #[.slice (some ⟨g, 0, none⟩) 1 cap, .func (.func 43) #[] #[.pointer (some ⟨b, 0, none⟩)]] w fun e w' => e = .returned (.int .i64 0) ∧ Keep (fun _ => False) w w' := by
  obtain ⟨c0, c1, c2, c3⟩ := rv_cells (i := 0) hv (by simp)
  simp only [List.getElem_cons_zero, Nat.zero_mul, Nat.zero_add] at c0 c1 c2 c3
  go_enter Try.func42, Try.ntmps42
  go_wp2
  refine wp_loop_once ?_
  go_wp2_with (go_at_call 43; go_loud (refine (test_any x b _ hb).mono ?_; rintro e w3 ⟨rfl, hk3⟩))
  go_ret
  exact ⟨rfl, hk3⟩

set_option maxHeartbeats 400000 in
theorem where_none (B p : Nat) (v : Value) (s : Int) (y : Nat) (hy : y < 1024) (w : World) (hR : RepR w B p v []) :
    Calls Try.prog 31 #[.pointer (some ⟨p, 0, none⟩), .int .i64 s, .int .i64 y] w fun e w' => e = .returned (.int .i64 (-1)) ∧ Keep (fun _ => False) w w' := by
  have hc0 := hR.c0
  have hpl := block_lt hR.hp
  obtain ⟨a, c, rfl, -⟩ := hR.hv.slice
  go_enter Try.func31, Try.ntmps31
  go_wp2_with (first | (go_at_call 35; refine (down_any y hy _).mono ?_; rintro e w1 ⟨rfl, rfl⟩) | (go_at_call 42; go_loud (refine (index_nil _ _ _ _).mono ?_; rintro e w2 ⟨rfl, rfl⟩)))
  go_ret
  exact ⟨rfl, (by (repeat (first | exact Keep.refl _ _ | exact Keep.refl _ _ | refine Keep.drew ?_ | refine Keep.drewN ?_ _ | refine Keep.alloc ?_ _ | refine Keep.setNew ?_ (by omega) _)); done)⟩

set_option maxHeartbeats 1000000 in
theorem where_one (B p : Nat) (v : Value) (x : Rv) (y : Nat) (hy : y < 1024) (hx : x.p = ((y / 8 * 8 : Nat) : Int)) (w : World) (hR : RepR w B p v [x]) :
    Calls Try.prog 31 #[.pointer (some ⟨p, 0, none⟩), .int .i64 x.s, .int .i64 y] w fun e w' => e = .returned (.int .i64 0) ∧ Keep (fun _ => False) w w' := by
  have hc0 := hR.c0
  have hpl := block_lt hR.hp
  have HX := Lib.hid hx
  obtain ⟨g, cap, rfl, hBg, hcap, hgl⟩ := hR.hv.form (by simp)
  have KB : Hid (Keep (fun _ => False) w (w.alloc (.cells #[.int .i64 x.s, .int .i64 x.p] 67))) := (Keep.refl _ _).alloc _
  have HB := Lib.hid (cells2 (heap_alloc_new w (.cells #[.int .i64 x.s, .int .i64 x.p] 67)))
  clear hx
  go_enter Try.func31, Try.ntmps31
  go_wp2_with (first | (go_at_call 35; refine (down_any y hy _).mono ?_; rw [← HX.out]; rintro e w1 ⟨rfl, rfl⟩) | (go_at_call 42; go_loud (refine (index_one B w.heap.size g cap x _ (hR.hv.keep KB.out (fun _ _ => id)) HB.out).mono ?_; rintro e w2 ⟨rfl, hk2⟩)))
  go_ret
  exact ⟨rfl, KB.out.trans hk2⟩

theorem tst0 : ∀ b : Fin 256, (bits .and .u8 ((b.val : Int)) 1 == 0) = decide (b.val / 1 % 2 = 0) := by decide +kernel
theorem tst1 : ∀ b : Fin 256, (bits .and .u8 ((b.val : Int) / 2) 1 == 0) = decide (b.val / 2 % 2 = 0) := by decide +kernel
theorem tst2 : ∀ b : Fin 256, (bits .and .u8 ((b.val : Int) / 4) 1 == 0) = decide (b.val / 4 % 2 = 0) := by decide +kernel
theorem tst3 : ∀ b : Fin 256, (bits .and .u8 ((b.val : Int) / 8) 1 == 0) = decide (b.val / 8 % 2 = 0) := by decide +kernel
theorem tst4 : ∀ b : Fin 256, (bits .and .u8 ((b.val : Int) / 16) 1 == 0) = decide (b.val / 16 % 2 = 0) := by decide +kernel
theorem tst5 : ∀ b : Fin 256, (bits .and .u8 ((b.val : Int) / 32) 1 == 0) = decide (b.val / 32 % 2 = 0) := by decide +kernel
theorem tst6 : ∀ b : Fin 256, (bits .and .u8 ((b.val : Int) / 64) 1 == 0) = decide (b.val / 64 % 2 = 0) := by decide +kernel
theorem tst7 : ∀ b : Fin 256, (bits .and .u8 ((b.val : Int) / 128) 1 == 0) = decide (b.val / 128 % 2 = 0) := by decide +kernel

def opN (f : Int) (b : Nat) : Nat → List Int
  | 0 => []
  | k + 1 => opN f b k ++ if b / 2 ^ k % 2 = 0 then [f + k] else []

theorem opN_len (f : Int) (b : Nat) : ∀ k, (opN f b k).length ≤ k := by
  intro k
  induction k with
  | zero => exact Nat.le_refl _
  | succ k ih => simp only [opN, List.length_append]; split <;> simp <;> omega

set_option maxHeartbeats 4000000 in
theorem open_any (x : Rv) (hf : 0 ≤ x.f ∧ x.f < 100000) (hb : x.b < 256) (w : World) :
    Calls Try.prog 29 #[rvV x] w fun e w' => ∃ v', e = .returned v' ∧ OwnL inE w' w.heap.size 3 v' (opN x.f x.b 8) ∧ Keep (fun _ => False) w w' := by
  have KB : Hid (Keep (fun _ => False) w (w.alloc (.cells #[.int .i64 x.s, .int .i64 x.p, .int .i64 x.f, .int .u8 x.b] 31))) := (Keep.refl _ _).alloc _
  have HB : Hid ((w.alloc (.cells #[.int .i64 x.s, .int .i64 x.p, .int .i64 x.f, .int .u8 x.b] 31)).heap[w.heap.size]? = some (.cells #[.int .i64 x.s, .int .i64 x.p, .int .i64 x.f, .int .u8 x.b] 31 (0, 0))) := heap_alloc_new w _
  unfold rvV
  go_enter Try.func29, Try.ntmps29
  go_wp2
  go_loopw [3, 5] (fun o i wr => ∃ k : Nat, k ≤ 8 ∧ i = .int .i64 k ∧ ∃ o' : Value, o' = o ∧ OwnL inE wr (w.heap.size + 1) 3 o' (opN x.f x.b k) ∧ Keep (fun x => w.heap.size < x) (w.alloc (.cells #[.int .i64 x.s, .int .i64 x.p, .int .i64 x.f, .int .u8 x.b] 31)) wr) (fun _ i _ => 8 - (intOf i).toNat)
  case atStart => exact ⟨0, by omega, rfl, _, rfl, OwnL.nil _ _ _, Keep.refl _ _⟩
  case round =>
    obtain ⟨k, hk, rfl, o, ho, hO, hkeep⟩ := hrel
    subst ho
    have HO := Lib.hid hO
    have HK := Lib.hid hkeep
    obtain ⟨b0, b1, b2, b3⟩ := cells4 ((hkeep.block _ (block_lt HB.out) (by omega)).trans HB.out)
    have hsz := hkeep.size
    simp at hsz
    clear hO hkeep
    have hc : k = 0 ∨ k = 1 ∨ k = 2 ∨ k = 3 ∨ k = 4 ∨ k = 5 ∨ k = 6 ∨ k = 7 ∨ k = 8 := by omega
    rcases hc with rfl | rfl | rfl | rfl | rfl | rfl | rfl | rfl | rfl
    · have ht := tst0 ⟨x.b, hb⟩
      simp only at ht
      have hll := opN_len x.f x.b 0
      by_cases e : x.b / 1 % 2 = 0
      · rw [decide_eq_true e] at ht
        have hF : Hid (opN x.f x.b 1 = opN x.f x.b 0 ++ [x.f]) := by unfold Hid; show opN x.f x.b 0 ++ _ = _; rw [if_pos e]; simp
        clear e
        obtain ⟨ao, co, rfl, -⟩ := HO.out.slice
        go_wp2_with (at_builtin; go_loud (refine wpl_app et42 rfl (.tmp 14) (.tmp 19) rfl (w.heap.size + 1) _ _ _ rfl (HO.out.keep (S := fun _ => False) (by (repeat (first | exact Keep.refl _ _ | exact Keep.refl _ _ | refine Keep.drew ?_ | refine Keep.drewN ?_ _ | refine Keep.alloc ?_ _ | refine Keep.setNew ?_ (by omega) _)); done) (fun _ _ => id)) (.slice (some ⟨wr.heap.size, 0, none⟩) 1 1) 1 [.int .i64 x.f] (by first | rfl | simp [Act.eval]) (Reads.new (heap_alloc_new wr _) rfl 1) (by simp [Value.oneCell']) (by unfold maxLen; omega) (by omega) (by simp; omega) ?_; intro v1 w1 hown1 hgrow1; have HK1 : Hid (Keep (fun x => w.heap.size < x) wr w1) := Keep.grown (by (repeat (first | exact Keep.refl _ _ | exact Keep.refl _ _ | refine Keep.drew ?_ | refine Keep.drewN ?_ _ | refine Keep.alloc ?_ _ | refine Keep.setNew ?_ (by omega) _)); done) hgrow1 (fun x h1 h2 => by have := (HO.out.lt x h1).1; omega); have HO1 : Hid (OwnL inE w1 (w.heap.size + 1) 3 v1 (opN x.f x.b 1)) := (by unfold Hid; rw [hF.out]; unfold OwnL; rw [List.length_append, inE.cs_append, inE.cs_one]; exact hown1); clear hown1 hgrow1))
        go_roundw
        case rel => exact ⟨1, by omega, by go_num, _, rfl, HO1.out, HK.out.trans HK1.out⟩
        case measure => simp [intOf]
      · rw [decide_eq_false e] at ht
        have hF : Hid (opN x.f x.b 1 = opN x.f x.b 0) := by unfold Hid; show opN x.f x.b 0 ++ _ = _; rw [if_neg e, List.append_nil]
        clear e
        go_wp2
        go_roundw
        case rel => exact ⟨1, by omega, by go_num, _, rfl, by rw [hF.out]; exact HO.out, HK.out⟩
        case measure => simp [intOf]
    · have ht := tst1 ⟨x.b, hb⟩
      simp only at ht
      have hll := opN_len x.f x.b 1
      by_cases e : x.b / 2 % 2 = 0
      · rw [decide_eq_true e] at ht
        have hF : Hid (opN x.f x.b 2 = opN x.f x.b 1 ++ [x.f + 1]) := by unfold Hid; show opN x.f x.b 1 ++ _ = _; rw [if_pos e]; rfl
        clear e
        obtain ⟨ao, co, rfl, -⟩ := HO.out.slice
        go_wp2_with (at_builtin; go_loud (refine wpl_app et42 rfl (.tmp 14) (.tmp 19) rfl (w.heap.size + 1) _ _ _ rfl (HO.out.keep (S := fun _ => False) (by (repeat (first | exact Keep.refl _ _ | exact Keep.refl _ _ | refine Keep.drew ?_ | refine Keep.drewN ?_ _ | refine Keep.alloc ?_ _ | refine Keep.setNew ?_ (by omega) _)); done) (fun _ _ => id)) (.slice (some ⟨wr.heap.size, 0, none⟩) 1 1) 1 [.int .i64 (x.f + 1)] (by first | rfl | simp [Act.eval]) (Reads.new (heap_alloc_new wr _) rfl 1) (by simp [Value.oneCell']) (by unfold maxLen; omega) (by omega) (by simp; omega) ?_; intro v1 w1 hown1 hgrow1; have HK1 : Hid (Keep (fun x => w.heap.size < x) wr w1) := Keep.grown (by (repeat (first | exact Keep.refl _ _ | exact Keep.refl _ _ | refine Keep.drew ?_ | refine Keep.drewN ?_ _ | refine Keep.alloc ?_ _ | refine Keep.setNew ?_ (by omega) _)); done) hgrow1 (fun x h1 h2 => by have := (HO.out.lt x h1).1; omega); have HO1 : Hid (OwnL inE w1 (w.heap.size + 1) 3 v1 (opN x.f x.b 2)) := (by unfold Hid; rw [hF.out]; unfold OwnL; rw [List.length_append, inE.cs_append, inE.cs_one]; exact hown1); clear hown1 hgrow1))
        go_roundw
        case rel => exact ⟨2, by omega, by go_num, _, rfl, HO1.out, HK.out.trans HK1.out⟩
        case measure => simp [intOf]
      · rw [decide_eq_false e] at ht
        have hF : Hid (opN x.f x.b 2 = opN x.f x.b 1) := by unfold Hid; show opN x.f x.b 1 ++ _ = _; rw [if_neg e, List.append_nil]
        clear e
        go_wp2
        go_roundw
        case rel => exact ⟨2, by omega, by go_num, _, rfl, by rw [hF.out]; exact HO.out, HK.out⟩
        case measure => simp [intOf]
    · have ht := tst2 ⟨x.b, hb⟩
      simp only at ht
      have hll := opN_len x.f x.b 2
      by_cases e : x.b / 4 % 2 = 0
      · rw [decide_eq_true e] at ht
        have hF : Hid (opN x.f x.b 3 = opN x.f x.b 2 ++ [x.f + 2]) := by unfold Hid; show opN x.f x.b 2 ++ _ = _; rw [if_pos e]; rfl
        clear e
        obtain ⟨ao, co, rfl, -⟩ := HO.out.slice
        go_wp2_with (at_builtin; go_loud (refine wpl_app et42 rfl (.tmp 14) (.tmp 19) rfl (w.heap.size + 1) _ _ _ rfl (HO.out.keep (S := fun _ => False) (by (repeat (first | exact Keep.refl _ _ | exact Keep.refl _ _ | refine Keep.drew ?_ | refine Keep.drewN ?_ _ | refine Keep.alloc ?_ _ | refine Keep.setNew ?_ (by omega) _)); done) (fun _ _ => id)) (.slice (some ⟨wr.heap.size, 0, none⟩) 1 1) 1 [.int .i64 (x.f + 2)] (by first | rfl | simp [Act.eval]) (Reads.new (heap_alloc_new wr _) rfl 1) (by simp [Value.oneCell']) (by unfold maxLen; omega) (by omega) (by simp; omega) ?_; intro v1 w1 hown1 hgrow1; have HK1 : Hid (Keep (fun x => w.heap.size < x) wr w1) := Keep.grown (by (repeat (first | exact Keep.refl _ _ | exact Keep.refl _ _ | refine Keep.drew ?_ | refine Keep.drewN ?_ _ | refine Keep.alloc ?_ _ | refine Keep.setNew ?_ (by omega) _)); done) hgrow1 (fun x h1 h2 => by have := (HO.out.lt x h1).1; omega); have HO1 : Hid (OwnL inE w1 (w.heap.size + 1) 3 v1 (opN x.f x.b 3)) := (by unfold Hid; rw [hF.out]; unfold OwnL; rw [List.length_append, inE.cs_append, inE.cs_one]; exact hown1); clear hown1 hgrow1))
        go_roundw
        case rel => exact ⟨3, by omega, by go_num, _, rfl, HO1.out, HK.out.trans HK1.out⟩
        case measure => simp [intOf]
      · rw [decide_eq_false e] at ht
        have hF : Hid (opN x.f x.b 3 = opN x.f x.b 2) := by unfold Hid; show opN x.f x.b 2 ++ _ = _; rw [if_neg e, List.append_nil]
        clear e
        go_wp2
        go_roundw
        case rel => exact ⟨3, by omega, by go_num, _, rfl, by rw [hF.out]; exact HO.out, HK.out⟩
        case measure => simp [intOf]
    · have ht := tst3 ⟨x.b, hb⟩
      simp only at ht
      have hll := opN_len x.f x.b 3
      by_cases e : x.b / 8 % 2 = 0
      · rw [decide_eq_true e] at ht
        have hF : Hid (opN x.f x.b 4 = opN x.f x.b 3 ++ [x.f + 3]) := by unfold Hid; show opN x.f x.b 3 ++ _ = _; rw [if_pos e]; rfl
        clear e
        obtain ⟨ao, co, rfl, -⟩ := HO.out.slice
        go_wp2_with (at_builtin; go_loud (refine wpl_app et42 rfl (.tmp 14) (.tmp 19) rfl (w.heap.size + 1) _ _ _ rfl (HO.out.keep (S := fun _ => False) (by (repeat (first | exact Keep.refl _ _ | exact Keep.refl _ _ | refine Keep.drew ?_ | refine Keep.drewN ?_ _ | refine Keep.alloc ?_ _ | refine Keep.setNew ?_ (by omega) _)); done) (fun _ _ => id)) (.slice (some ⟨wr.heap.size, 0, none⟩) 1 1) 1 [.int .i64 (x.f + 3)] (by first | rfl | simp [Act.eval]) (Reads.new (heap_alloc_new wr _) rfl 1) (by simp [Value.oneCell']) (by unfold maxLen; omega) (by omega) (by simp; omega) ?_; intro v1 w1 hown1 hgrow1; have HK1 : Hid (Keep (fun x => w.heap.size < x) wr w1) := Keep.grown (by (repeat (first | exact Keep.refl _ _ | exact Keep.refl _ _ | refine Keep.drew ?_ | refine Keep.drewN ?_ _ | refine Keep.alloc ?_ _ | refine Keep.setNew ?_ (by omega) _)); done) hgrow1 (fun x h1 h2 => by have := (HO.out.lt x h1).1; omega); have HO1 : Hid (OwnL inE w1 (w.heap.size + 1) 3 v1 (opN x.f x.b 4)) := (by unfold Hid; rw [hF.out]; unfold OwnL; rw [List.length_append, inE.cs_append, inE.cs_one]; exact hown1); clear hown1 hgrow1))
        go_roundw
        case rel => exact ⟨4, by omega, by go_num, _, rfl, HO1.out, HK.out.trans HK1.out⟩
        case measure => simp [intOf]
      · rw [decide_eq_false e] at ht
        have hF : Hid (opN x.f x.b 4 = opN x.f x.b 3) := by unfold Hid; show opN x.f x.b 3 ++ _ = _; rw [if_neg e, List.append_nil]
        clear e
        go_wp2
        go_roundw
        case rel => exact ⟨4, by omega, by go_num, _, rfl, by rw [hF.out]; exact HO.out, HK.out⟩
        case measure => simp [intOf]
    · have ht := tst4 ⟨x.b, hb⟩
      simp only at ht
      have hll := opN_len x.f x.b 4
      by_cases e : x.b / 16 % 2 = 0
      · rw [decide_eq_true e] at ht
        have hF : Hid (opN x.f x.b 5 = opN x.f x.b 4 ++ [x.f + 4]) := by unfold Hid; show opN x.f x.b 4 ++ _ = _; rw [if_pos e]; rfl
        clear e
        obtain ⟨ao, co, rfl, -⟩ := HO.out.slice
        go_wp2_with (at_builtin; go_loud (refine wpl_app et42 rfl (.tmp 14) (.tmp 19) rfl (w.heap.size + 1) _ _ _ rfl (HO.out.keep (S := fun _ => False) (by (repeat (first | exact Keep.refl _ _ | exact Keep.refl _ _ | refine Keep.drew ?_ | refine Keep.drewN ?_ _ | refine Keep.alloc ?_ _ | refine Keep.setNew ?_ (by omega) _)); done) (fun _ _ => id)) (.slice (some ⟨wr.heap.size, 0, none⟩) 1 1) 1 [.int .i64 (x.f + 4)] (by first | rfl | simp [Act.eval]) (Reads.new (heap_alloc_new wr _) rfl 1) (by simp [Value.oneCell']) (by unfold maxLen; omega) (by omega) (by simp; omega) ?_; intro v1 w1 hown1 hgrow1; have HK1 : Hid (Keep (fun x => w.heap.size < x) wr w1) := Keep.grown (by (repeat (first | exact Keep.refl _ _ | exact Keep.refl _ _ | refine Keep.drew ?_ | refine Keep.drewN ?_ _ | refine Keep.alloc ?_ _ | refine Keep.setNew ?_ (by omega) _)); done) hgrow1 (fun x h1 h2 => by have := (HO.out.lt x h1).1; omega); have HO1 : Hid (OwnL inE w1 (w.heap.size + 1) 3 v1 (opN x.f x.b 5)) := (by unfold Hid; rw [hF.out]; unfold OwnL; rw [List.length_append, inE.cs_append, inE.cs_one]; exact hown1); clear hown1 hgrow1))
        go_roundw
        case rel => exact ⟨5, by omega, by go_num, _, rfl, HO1.out, HK.out.trans HK1.out⟩
        case measure => simp [intOf]
      · rw [decide_eq_false e] at ht
        have hF : Hid (opN x.f x.b 5 = opN x.f x.b 4) := by unfold Hid; show opN x.f x.b 4 ++ _ = _; rw [if_neg e, List.append_nil]
        clear e
        go_wp2
        go_roundw
        case rel => exact ⟨5, by omega, by go_num, _, rfl, by rw [hF.out]; exact HO.out, HK.out⟩
        case measure => simp [intOf]
    · have ht := tst5 ⟨x.b, hb⟩
      simp only at ht
      have hll := opN_len x.f x.b 5
      by_cases e : x.b / 32 % 2 = 0
      · rw [decide_eq_true e] at ht
        have hF : Hid (opN x.f x.b 6 = opN x.f x.b 5 ++ [x.f + 5]) := by unfold Hid; show opN x.f x.b 5 ++ _ = _; rw [if_pos e]; rfl
        clear e
        obtain ⟨ao, co, rfl, -⟩ := HO.out.slice
        go_wp2_with (at_builtin; go_loud (refine wpl_app et42 rfl (.tmp 14) (.tmp 19) rfl (w.heap.size + 1) _ _ _ rfl (HO.out.keep (S := fun _ => False) (by (repeat (first | exact Keep.refl _ _ | exact Keep.refl _ _ | refine Keep.drew ?_ | refine Keep.drewN ?_ _ | refine Keep.alloc ?_ _ | refine Keep.setNew ?_ (by omega) _)); done) (fun _ _ => id)) (.slice (some ⟨wr.heap.size, 0, none⟩) 1 1) 1 [.int .i64 (x.f + 5)] (by first | rfl | simp [Act.eval]) (Reads.new (heap_alloc_new wr _) rfl 1) (by simp [Value.oneCell']) (by unfold maxLen; omega) (by omega) (by simp; omega) ?_; intro v1 w1 hown1 hgrow1; have HK1 : Hid (Keep (fun x => w.heap.size < x) wr w1) := Keep.grown (by (repeat (first | exact Keep.refl _ _ | exact Keep.refl _ _ | refine Keep.drew ?_ | refine Keep.drewN ?_ _ | refine Keep.alloc ?_ _ | refine Keep.setNew ?_ (by omega) _)); done) hgrow1 (fun x h1 h2 => by have := (HO.out.lt x h1).1; omega); have HO1 : Hid (OwnL inE w1 (w.heap.size + 1) 3 v1 (opN x.f x.b 6)) := (by unfold Hid; rw [hF.out]; unfold OwnL; rw [List.length_append, inE.cs_append, inE.cs_one]; exact hown1); clear hown1 hgrow1))
        go_roundw
        case rel => exact ⟨6, by omega, by go_num, _, rfl, HO1.out, HK.out.trans HK1.out⟩
        case measure => simp [intOf]
      · rw [decide_eq_false e] at ht
        have hF : Hid (opN x.f x.b 6 = opN x.f x.b 5) := by unfold Hid; show opN x.f x.b 5 ++ _ = _; rw [if_neg e, List.append_nil]
        clear e
        go_wp2
        go_roundw
        case rel => exact ⟨6, by omega, by go_num, _, rfl, by rw [hF.out]; exact HO.out, HK.out⟩
        case measure => simp [intOf]
    · have ht := tst6 ⟨x.b, hb⟩
      simp only at ht
      have hll := opN_len x.f x.b 6
      by_cases e : x.b / 64 % 2 = 0
      · rw [decide_eq_true e] at ht
        have hF : Hid (opN x.f x.b 7 = opN x.f x.b 6 ++ [x.f + 6]) := by unfold Hid; show opN x.f x.b 6 ++ _ = _; rw [if_pos e]; rfl
        clear e
        obtain ⟨ao, co, rfl, -⟩ := HO.out.slice
        go_wp2_with (at_builtin; go_loud (refine wpl_app et42 rfl (.tmp 14) (.tmp 19) rfl (w.heap.size + 1) _ _ _ rfl (HO.out.keep (S := fun _ => False) (by (repeat (first | exact Keep.refl _ _ | exact Keep.refl _ _ | refine Keep.drew ?_ | refine Keep.drewN ?_ _ | refine Keep.alloc ?_ _ | refine Keep.setNew ?_ (by omega) _)); done) (fun _ _ => id)) (.slice (some ⟨wr.heap.size, 0, none⟩) 1 1) 1 [.int .i64 (x.f + 6)] (by first | rfl | simp [Act.eval]) (Reads.new (heap_alloc_new wr _) rfl 1) (by simp [Value.oneCell']) (by unfold maxLen; omega) (by omega) (by simp; omega) ?_; intro v1 w1 hown1 hgrow1; have HK1 : Hid (Keep (fun x => w.heap.size < x) wr w1) := Keep.grown (by (repeat (first | exact Keep.refl _ _ | exact Keep.refl _ _ | refine Keep.drew ?_ | refine Keep.drewN ?_ _ | refine Keep.alloc ?_ _ | refine Keep.setNew ?_ (by omega) _)); done) hgrow1 (fun x h1 h2 => by have := (HO.out.lt x h1).1; omega); have HO1 : Hid (OwnL inE w1 (w.heap.size + 1) 3 v1 (opN x.f x.b 7)) := (by unfold Hid; rw [hF.out]; unfold OwnL; rw [List.length_append, inE.cs_append, inE.cs_one]; exact hown1); clear hown1 hgrow1))
        go_roundw
        case rel => exact ⟨7, by omega, by go_num, _, rfl, HO1.out, HK.out.trans HK1.out⟩
        case measure => simp [intOf]
      · rw [decide_eq_false e] at ht
        have hF : Hid (opN x.f x.b 7 = opN x.f x.b 6) := by unfold Hid; show opN x.f x.b 6 ++ _ = _; rw [if_neg e, List.append_nil]
        clear e
        go_wp2
        go_roundw
        case rel => exact ⟨7, by omega, by go_num, _, rfl, by rw [hF.out]; exact HO.out, HK.out⟩
        case measure => simp [intOf]
    · have ht := tst7 ⟨x.b, hb⟩
      simp only at ht
      have hll := opN_len x.f x.b 7
      by_cases e : x.b / 128 % 2 = 0
      · rw [decide_eq_true e] at ht
        have hF : Hid (opN x.f x.b 8 = opN x.f x.b 7 ++ [x.f + 7]) := by unfold Hid; show opN x.f x.b 7 ++ _ = _; rw [if_pos e]; rfl
        clear e
        obtain ⟨ao, co, rfl, -⟩ := HO.out.slice
        go_wp2_with (at_builtin; go_loud (refine wpl_app et42 rfl (.tmp 14) (.tmp 19) rfl (w.heap.size + 1) _ _ _ rfl (HO.out.keep (S := fun _ => False) (by (repeat (first | exact Keep.refl _ _ | exact Keep.refl _ _ | refine Keep.drew ?_ | refine Keep.drewN ?_ _ | refine Keep.alloc ?_ _ | refine Keep.setNew ?_ (by omega) _)); done) (fun _ _ => id)) (.slice (some ⟨wr.heap.size, 0, none⟩) 1 1) 1 [.int .i64 (x.f + 7)] (by first | rfl | simp [Act.eval]) (Reads.new (heap_alloc_new wr _) rfl 1) (by simp [Value.oneCell']) (by unfold maxLen; omega) (by omega) (by simp; omega) ?_; intro v1 w1 hown1 hgrow1; have HK1 : Hid (Keep (fun x => w.heap.size < x) wr w1) := Keep.grown (by (repeat (first | exact Keep.refl _ _ | exact Keep.refl _ _ | refine Keep.drew ?_ | refine Keep.drewN ?_ _ | refine Keep.alloc ?_ _ | refine Keep.setNew ?_ (by omega) _)); done) hgrow1 (fun x h1 h2 => by have := (HO.out.lt x h1).1; omega); have HO1 : Hid (OwnL inE w1 (w.heap.size + 1) 3 v1 (opN x.f x.b 8)) := (by unfold Hid; rw [hF.out]; unfold OwnL; rw [List.length_append, inE.cs_append, inE.cs_one]; exact hown1); clear hown1 hgrow1))
        go_roundw
        case rel => exact ⟨8, by omega, by go_num, _, rfl, HO1.out, HK.out.trans HK1.out⟩
        case measure => simp [intOf]
      · rw [decide_eq_false e] at ht
        have hF : Hid (opN x.f x.b 8 = opN x.f x.b 7) := by unfold Hid; show opN x.f x.b 7 ++ _ = _; rw [if_neg e, List.append_nil]
        clear e
        go_wp2
        go_roundw
        case rel => exact ⟨8, by omega, by go_num, _, rfl, by rw [hF.out]; exact HO.out, HK.out⟩
        case measure => simp [intOf]
    · go_wp2
      go_ret
      exact ⟨_, rfl, HO.out.base (fun x hx => by have := (HO.out.lt x hx).1; omega), Keep.fresh (B := w.heap.size) ((KB.out.mono (T := fun x => w.heap.size ≤ x) (fun _ _ h => h.elim)).trans (HK.out.mono (T := fun x => w.heap.size ≤ x) (fun x _ h => by omega))) (fun _ h => h) (Nat.le_refl _)⟩

end Go.Proofs.Ytmbgebmhdofdaaa
