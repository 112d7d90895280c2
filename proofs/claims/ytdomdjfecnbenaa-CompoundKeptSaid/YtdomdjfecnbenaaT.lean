/- Compounds: the lost frames of one. -/
import Derived.Test.YtdomdjfecnbenaaR
import Derived.Test.YtdomdjfecnbenaaG
set_option linter.unusedVariables false
set_option linter.unusedSimpArgs false
namespace Go.Proofs.Ytdomdjfecnbenaa
open Go.RowKit Go.Own

theorem tst0 : ∀ b : Fin 256, (bits .and .u8 ((b.val : Int)) 1 == 1) = decide (b.val / 1 % 2 = 1) := by decide +kernel
theorem tst1 : ∀ b : Fin 256, (bits .and .u8 ((b.val : Int) / 2) 1 == 1) = decide (b.val / 2 % 2 = 1) := by decide +kernel
theorem tst2 : ∀ b : Fin 256, (bits .and .u8 ((b.val : Int) / 4) 1 == 1) = decide (b.val / 4 % 2 = 1) := by decide +kernel
theorem tst3 : ∀ b : Fin 256, (bits .and .u8 ((b.val : Int) / 8) 1 == 1) = decide (b.val / 8 % 2 = 1) := by decide +kernel
theorem tst4 : ∀ b : Fin 256, (bits .and .u8 ((b.val : Int) / 16) 1 == 1) = decide (b.val / 16 % 2 = 1) := by decide +kernel
theorem tst5 : ∀ b : Fin 256, (bits .and .u8 ((b.val : Int) / 32) 1 == 1) = decide (b.val / 32 % 2 = 1) := by decide +kernel
theorem tst6 : ∀ b : Fin 256, (bits .and .u8 ((b.val : Int) / 64) 1 == 1) = decide (b.val / 64 % 2 = 1) := by decide +kernel
theorem tst7 : ∀ b : Fin 256, (bits .and .u8 ((b.val : Int) / 128) 1 == 1) = decide (b.val / 128 % 2 = 1) := by decide +kernel


theorem lostN_len (f : Int) (b : Nat) : ∀ k, (lostN f b k).length ≤ k := by
  intro k
  induction k with
  | zero => exact Nat.le_refl _
  | succ k ih => simp only [lostN, List.length_append]; split <;> simp <;> omega

set_option maxHeartbeats 4000000 in
theorem lost_any (x : Cp) (hf : 0 ≤ x.f ∧ x.f < 100000) (hb : x.b < 256) (w : World) :
    Calls Try.prog 32 #[cpV x] w fun e w' => ∃ v', e = .returned v' ∧ OwnL inE w' w.heap.size 3 v' (lostN x.f x.b 8) ∧ Keep (fun _ => False) w w' := by
  have KB : Hid (Keep (fun _ => False) w (w.alloc (.cells #[.int .i64 x.f, .int .u8 x.b] 39))) := (Keep.refl _ _).alloc _
  have HB : Hid ((w.alloc (.cells #[.int .i64 x.f, .int .u8 x.b] 39)).heap[w.heap.size]? = some (.cells #[.int .i64 x.f, .int .u8 x.b] 39 (0, 0))) := heap_alloc_new w _
  unfold cpV
  go_enter Try.func32, Try.ntmps32
  go_wp2
  go_loopw [3, 5] (fun o i wr => ∃ k : Nat, k ≤ 8 ∧ i = .int .i64 k ∧ ∃ o' : Value, o' = o ∧ OwnL inE wr (w.heap.size + 1) 3 o' (lostN x.f x.b k) ∧ Keep (fun x => w.heap.size < x) (w.alloc (.cells #[.int .i64 x.f, .int .u8 x.b] 39)) wr) (fun _ i _ => 8 - (intOf i).toNat)
  case atStart => exact ⟨0, by omega, rfl, _, rfl, OwnL.nil _ _ _, Keep.refl _ _⟩
  case round =>
    obtain ⟨k, hk, rfl, o, ho, hO, hkeep⟩ := hrel
    subst ho
    have HO := Lib.hid hO
    have HK := Lib.hid hkeep
    obtain ⟨b0, b1⟩ := cells2 ((hkeep.block _ (block_lt HB.out) (by omega)).trans HB.out)
    have hsz := hkeep.size
    simp at hsz
    clear hO hkeep
    have hc : k = 0 ∨ k = 1 ∨ k = 2 ∨ k = 3 ∨ k = 4 ∨ k = 5 ∨ k = 6 ∨ k = 7 ∨ k = 8 := by omega
    rcases hc with rfl | rfl | rfl | rfl | rfl | rfl | rfl | rfl | rfl
    · have ht := tst0 ⟨x.b, hb⟩
      simp only at ht
      have hll := lostN_len x.f x.b 0
      by_cases e : x.b / 1 % 2 = 1
      · rw [decide_eq_true e] at ht
        have hF : Hid (lostN x.f x.b 1 = lostN x.f x.b 0 ++ [x.f]) := by unfold Hid; show lostN x.f x.b 0 ++ _ = _; rw [if_pos e]; simp
        clear e
        obtain ⟨ao, co, rfl, -⟩ := HO.out.slice
        go_wp2_with (at_builtin; go_loud (refine wpl_app et46 rfl (.tmp 14) (.tmp 19) rfl (w.heap.size + 1) _ _ _ rfl (HO.out.keep (S := fun _ => False) (by (repeat (first | exact Keep.refl _ _ | exact Keep.refl _ _ | refine Keep.drew ?_ | refine Keep.drewN ?_ _ | refine Keep.alloc ?_ _ | refine Keep.setNew ?_ (by omega) _)); done) (fun _ _ => id)) (.slice (some ⟨wr.heap.size, 0, none⟩) 1 1) 1 [.int .i64 x.f] (by first | rfl | simp [Act.eval]) (Reads.new (heap_alloc_new wr _) rfl 1) (by simp [Value.oneCell']) (by unfold maxLen; omega) (by omega) (by simp; omega) ?_; intro v1 w1 hown1 hgrow1; have HK1 : Hid (Keep (fun x => w.heap.size < x) wr w1) := Keep.grown (by (repeat (first | exact Keep.refl _ _ | exact Keep.refl _ _ | refine Keep.drew ?_ | refine Keep.drewN ?_ _ | refine Keep.alloc ?_ _ | refine Keep.setNew ?_ (by omega) _)); done) hgrow1 (fun x h1 h2 => by have := (HO.out.lt x h1).1; omega); have HO1 : Hid (OwnL inE w1 (w.heap.size + 1) 3 v1 (lostN x.f x.b 1)) := (by unfold Hid; rw [hF.out]; unfold OwnL; rw [List.length_append, inE.cs_append, inE.cs_one]; exact hown1); clear hown1 hgrow1))
        go_roundw
        case rel => exact ⟨1, by omega, by go_num, _, rfl, HO1.out, HK.out.trans HK1.out⟩
        case measure => simp [intOf]
      · rw [decide_eq_false e] at ht
        have hF : Hid (lostN x.f x.b 1 = lostN x.f x.b 0) := by unfold Hid; show lostN x.f x.b 0 ++ _ = _; rw [if_neg e, List.append_nil]
        clear e
        go_wp2
        go_roundw
        case rel => exact ⟨1, by omega, by go_num, _, rfl, by rw [hF.out]; exact HO.out, HK.out⟩
        case measure => simp [intOf]
    · have ht := tst1 ⟨x.b, hb⟩
      simp only at ht
      have hll := lostN_len x.f x.b 1
      by_cases e : x.b / 2 % 2 = 1
      · rw [decide_eq_true e] at ht
        have hF : Hid (lostN x.f x.b 2 = lostN x.f x.b 1 ++ [x.f + 1]) := by unfold Hid; show lostN x.f x.b 1 ++ _ = _; rw [if_pos e]; rfl
        clear e
        obtain ⟨ao, co, rfl, -⟩ := HO.out.slice
        go_wp2_with (at_builtin; go_loud (refine wpl_app et46 rfl (.tmp 14) (.tmp 19) rfl (w.heap.size + 1) _ _ _ rfl (HO.out.keep (S := fun _ => False) (by (repeat (first | exact Keep.refl _ _ | exact Keep.refl _ _ | refine Keep.drew ?_ | refine Keep.drewN ?_ _ | refine Keep.alloc ?_ _ | refine Keep.setNew ?_ (by omega) _)); done) (fun _ _ => id)) (.slice (some ⟨wr.heap.size, 0, none⟩) 1 1) 1 [.int .i64 (x.f + 1)] (by first | rfl | simp [Act.eval]) (Reads.new (heap_alloc_new wr _) rfl 1) (by simp [Value.oneCell']) (by unfold maxLen; omega) (by omega) (by simp; omega) ?_; intro v1 w1 hown1 hgrow1; have HK1 : Hid (Keep (fun x => w.heap.size < x) wr w1) := Keep.grown (by (repeat (first | exact Keep.refl _ _ | exact Keep.refl _ _ | refine Keep.drew ?_ | refine Keep.drewN ?_ _ | refine Keep.alloc ?_ _ | refine Keep.setNew ?_ (by omega) _)); done) hgrow1 (fun x h1 h2 => by have := (HO.out.lt x h1).1; omega); have HO1 : Hid (OwnL inE w1 (w.heap.size + 1) 3 v1 (lostN x.f x.b 2)) := (by unfold Hid; rw [hF.out]; unfold OwnL; rw [List.length_append, inE.cs_append, inE.cs_one]; exact hown1); clear hown1 hgrow1))
        go_roundw
        case rel => exact ⟨2, by omega, by go_num, _, rfl, HO1.out, HK.out.trans HK1.out⟩
        case measure => simp [intOf]
      · rw [decide_eq_false e] at ht
        have hF : Hid (lostN x.f x.b 2 = lostN x.f x.b 1) := by unfold Hid; show lostN x.f x.b 1 ++ _ = _; rw [if_neg e, List.append_nil]
        clear e
        go_wp2
        go_roundw
        case rel => exact ⟨2, by omega, by go_num, _, rfl, by rw [hF.out]; exact HO.out, HK.out⟩
        case measure => simp [intOf]
    · have ht := tst2 ⟨x.b, hb⟩
      simp only at ht
      have hll := lostN_len x.f x.b 2
      by_cases e : x.b / 4 % 2 = 1
      · rw [decide_eq_true e] at ht
        have hF : Hid (lostN x.f x.b 3 = lostN x.f x.b 2 ++ [x.f + 2]) := by unfold Hid; show lostN x.f x.b 2 ++ _ = _; rw [if_pos e]; rfl
        clear e
        obtain ⟨ao, co, rfl, -⟩ := HO.out.slice
        go_wp2_with (at_builtin; go_loud (refine wpl_app et46 rfl (.tmp 14) (.tmp 19) rfl (w.heap.size + 1) _ _ _ rfl (HO.out.keep (S := fun _ => False) (by (repeat (first | exact Keep.refl _ _ | exact Keep.refl _ _ | refine Keep.drew ?_ | refine Keep.drewN ?_ _ | refine Keep.alloc ?_ _ | refine Keep.setNew ?_ (by omega) _)); done) (fun _ _ => id)) (.slice (some ⟨wr.heap.size, 0, none⟩) 1 1) 1 [.int .i64 (x.f + 2)] (by first | rfl | simp [Act.eval]) (Reads.new (heap_alloc_new wr _) rfl 1) (by simp [Value.oneCell']) (by unfold maxLen; omega) (by omega) (by simp; omega) ?_; intro v1 w1 hown1 hgrow1; have HK1 : Hid (Keep (fun x => w.heap.size < x) wr w1) := Keep.grown (by (repeat (first | exact Keep.refl _ _ | exact Keep.refl _ _ | refine Keep.drew ?_ | refine Keep.drewN ?_ _ | refine Keep.alloc ?_ _ | refine Keep.setNew ?_ (by omega) _)); done) hgrow1 (fun x h1 h2 => by have := (HO.out.lt x h1).1; omega); have HO1 : Hid (OwnL inE w1 (w.heap.size + 1) 3 v1 (lostN x.f x.b 3)) := (by unfold Hid; rw [hF.out]; unfold OwnL; rw [List.length_append, inE.cs_append, inE.cs_one]; exact hown1); clear hown1 hgrow1))
        go_roundw
        case rel => exact ⟨3, by omega, by go_num, _, rfl, HO1.out, HK.out.trans HK1.out⟩
        case measure => simp [intOf]
      · rw [decide_eq_false e] at ht
        have hF : Hid (lostN x.f x.b 3 = lostN x.f x.b 2) := by unfold Hid; show lostN x.f x.b 2 ++ _ = _; rw [if_neg e, List.append_nil]
        clear e
        go_wp2
        go_roundw
        case rel => exact ⟨3, by omega, by go_num, _, rfl, by rw [hF.out]; exact HO.out, HK.out⟩
        case measure => simp [intOf]
    · have ht := tst3 ⟨x.b, hb⟩
      simp only at ht
      have hll := lostN_len x.f x.b 3
      by_cases e : x.b / 8 % 2 = 1
      · rw [decide_eq_true e] at ht
        have hF : Hid (lostN x.f x.b 4 = lostN x.f x.b 3 ++ [x.f + 3]) := by unfold Hid; show lostN x.f x.b 3 ++ _ = _; rw [if_pos e]; rfl
        clear e
        obtain ⟨ao, co, rfl, -⟩ := HO.out.slice
        go_wp2_with (at_builtin; go_loud (refine wpl_app et46 rfl (.tmp 14) (.tmp 19) rfl (w.heap.size + 1) _ _ _ rfl (HO.out.keep (S := fun _ => False) (by (repeat (first | exact Keep.refl _ _ | exact Keep.refl _ _ | refine Keep.drew ?_ | refine Keep.drewN ?_ _ | refine Keep.alloc ?_ _ | refine Keep.setNew ?_ (by omega) _)); done) (fun _ _ => id)) (.slice (some ⟨wr.heap.size, 0, none⟩) 1 1) 1 [.int .i64 (x.f + 3)] (by first | rfl | simp [Act.eval]) (Reads.new (heap_alloc_new wr _) rfl 1) (by simp [Value.oneCell']) (by unfold maxLen; omega) (by omega) (by simp; omega) ?_; intro v1 w1 hown1 hgrow1; have HK1 : Hid (Keep (fun x => w.heap.size < x) wr w1) := Keep.grown (by (repeat (first | exact Keep.refl _ _ | exact Keep.refl _ _ | refine Keep.drew ?_ | refine Keep.drewN ?_ _ | refine Keep.alloc ?_ _ | refine Keep.setNew ?_ (by omega) _)); done) hgrow1 (fun x h1 h2 => by have := (HO.out.lt x h1).1; omega); have HO1 : Hid (OwnL inE w1 (w.heap.size + 1) 3 v1 (lostN x.f x.b 4)) := (by unfold Hid; rw [hF.out]; unfold OwnL; rw [List.length_append, inE.cs_append, inE.cs_one]; exact hown1); clear hown1 hgrow1))
        go_roundw
        case rel => exact ⟨4, by omega, by go_num, _, rfl, HO1.out, HK.out.trans HK1.out⟩
        case measure => simp [intOf]
      · rw [decide_eq_false e] at ht
        have hF : Hid (lostN x.f x.b 4 = lostN x.f x.b 3) := by unfold Hid; show lostN x.f x.b 3 ++ _ = _; rw [if_neg e, List.append_nil]
        clear e
        go_wp2
        go_roundw
        case rel => exact ⟨4, by omega, by go_num, _, rfl, by rw [hF.out]; exact HO.out, HK.out⟩
        case measure => simp [intOf]
    · have ht := tst4 ⟨x.b, hb⟩
      simp only at ht
      have hll := lostN_len x.f x.b 4
      by_cases e : x.b / 16 % 2 = 1
      · rw [decide_eq_true e] at ht
        have hF : Hid (lostN x.f x.b 5 = lostN x.f x.b 4 ++ [x.f + 4]) := by unfold Hid; show lostN x.f x.b 4 ++ _ = _; rw [if_pos e]; rfl
        clear e
        obtain ⟨ao, co, rfl, -⟩ := HO.out.slice
        go_wp2_with (at_builtin; go_loud (refine wpl_app et46 rfl (.tmp 14) (.tmp 19) rfl (w.heap.size + 1) _ _ _ rfl (HO.out.keep (S := fun _ => False) (by (repeat (first | exact Keep.refl _ _ | exact Keep.refl _ _ | refine Keep.drew ?_ | refine Keep.drewN ?_ _ | refine Keep.alloc ?_ _ | refine Keep.setNew ?_ (by omega) _)); done) (fun _ _ => id)) (.slice (some ⟨wr.heap.size, 0, none⟩) 1 1) 1 [.int .i64 (x.f + 4)] (by first | rfl | simp [Act.eval]) (Reads.new (heap_alloc_new wr _) rfl 1) (by simp [Value.oneCell']) (by unfold maxLen; omega) (by omega) (by simp; omega) ?_; intro v1 w1 hown1 hgrow1; have HK1 : Hid (Keep (fun x => w.heap.size < x) wr w1) := Keep.grown (by (repeat (first | exact Keep.refl _ _ | exact Keep.refl _ _ | refine Keep.drew ?_ | refine Keep.drewN ?_ _ | refine Keep.alloc ?_ _ | refine Keep.setNew ?_ (by omega) _)); done) hgrow1 (fun x h1 h2 => by have := (HO.out.lt x h1).1; omega); have HO1 : Hid (OwnL inE w1 (w.heap.size + 1) 3 v1 (lostN x.f x.b 5)) := (by unfold Hid; rw [hF.out]; unfold OwnL; rw [List.length_append, inE.cs_append, inE.cs_one]; exact hown1); clear hown1 hgrow1))
        go_roundw
        case rel => exact ⟨5, by omega, by go_num, _, rfl, HO1.out, HK.out.trans HK1.out⟩
        case measure => simp [intOf]
      · rw [decide_eq_false e] at ht
        have hF : Hid (lostN x.f x.b 5 = lostN x.f x.b 4) := by unfold Hid; show lostN x.f x.b 4 ++ _ = _; rw [if_neg e, List.append_nil]
        clear e
        go_wp2
        go_roundw
        case rel => exact ⟨5, by omega, by go_num, _, rfl, by rw [hF.out]; exact HO.out, HK.out⟩
        case measure => simp [intOf]
    · have ht := tst5 ⟨x.b, hb⟩
      simp only at ht
      have hll := lostN_len x.f x.b 5
      by_cases e : x.b / 32 % 2 = 1
      · rw [decide_eq_true e] at ht
        have hF : Hid (lostN x.f x.b 6 = lostN x.f x.b 5 ++ [x.f + 5]) := by unfold Hid; show lostN x.f x.b 5 ++ _ = _; rw [if_pos e]; rfl
        clear e
        obtain ⟨ao, co, rfl, -⟩ := HO.out.slice
        go_wp2_with (at_builtin; go_loud (refine wpl_app et46 rfl (.tmp 14) (.tmp 19) rfl (w.heap.size + 1) _ _ _ rfl (HO.out.keep (S := fun _ => False) (by (repeat (first | exact Keep.refl _ _ | exact Keep.refl _ _ | refine Keep.drew ?_ | refine Keep.drewN ?_ _ | refine Keep.alloc ?_ _ | refine Keep.setNew ?_ (by omega) _)); done) (fun _ _ => id)) (.slice (some ⟨wr.heap.size, 0, none⟩) 1 1) 1 [.int .i64 (x.f + 5)] (by first | rfl | simp [Act.eval]) (Reads.new (heap_alloc_new wr _) rfl 1) (by simp [Value.oneCell']) (by unfold maxLen; omega) (by omega) (by simp; omega) ?_; intro v1 w1 hown1 hgrow1; have HK1 : Hid (Keep (fun x => w.heap.size < x) wr w1) := Keep.grown (by (repeat (first | exact Keep.refl _ _ | exact Keep.refl _ _ | refine Keep.drew ?_ | refine Keep.drewN ?_ _ | refine Keep.alloc ?_ _ | refine Keep.setNew ?_ (by omega) _)); done) hgrow1 (fun x h1 h2 => by have := (HO.out.lt x h1).1; omega); have HO1 : Hid (OwnL inE w1 (w.heap.size + 1) 3 v1 (lostN x.f x.b 6)) := (by unfold Hid; rw [hF.out]; unfold OwnL; rw [List.length_append, inE.cs_append, inE.cs_one]; exact hown1); clear hown1 hgrow1))
        go_roundw
        case rel => exact ⟨6, by omega, by go_num, _, rfl, HO1.out, HK.out.trans HK1.out⟩
        case measure => simp [intOf]
      · rw [decide_eq_false e] at ht
        have hF : Hid (lostN x.f x.b 6 = lostN x.f x.b 5) := by unfold Hid; show lostN x.f x.b 5 ++ _ = _; rw [if_neg e, List.append_nil]
        clear e
        go_wp2
        go_roundw
        case rel => exact ⟨6, by omega, by go_num, _, rfl, by rw [hF.out]; exact HO.out, HK.out⟩
        case measure => simp [intOf]
    · have ht := tst6 ⟨x.b, hb⟩
      simp only at ht
      have hll := lostN_len x.f x.b 6
      by_cases e : x.b / 64 % 2 = 1
      · rw [decide_eq_true e] at ht
        have hF : Hid (lostN x.f x.b 7 = lostN x.f x.b 6 ++ [x.f + 6]) := by unfold Hid; show lostN x.f x.b 6 ++ _ = _; rw [if_pos e]; rfl
        clear e
        obtain ⟨ao, co, rfl, -⟩ := HO.out.slice
        go_wp2_with (at_builtin; go_loud (refine wpl_app et46 rfl (.tmp 14) (.tmp 19) rfl (w.heap.size + 1) _ _ _ rfl (HO.out.keep (S := fun _ => False) (by (repeat (first | exact Keep.refl _ _ | exact Keep.refl _ _ | refine Keep.drew ?_ | refine Keep.drewN ?_ _ | refine Keep.alloc ?_ _ | refine Keep.setNew ?_ (by omega) _)); done) (fun _ _ => id)) (.slice (some ⟨wr.heap.size, 0, none⟩) 1 1) 1 [.int .i64 (x.f + 6)] (by first | rfl | simp [Act.eval]) (Reads.new (heap_alloc_new wr _) rfl 1) (by simp [Value.oneCell']) (by unfold maxLen; omega) (by omega) (by simp; omega) ?_; intro v1 w1 hown1 hgrow1; have HK1 : Hid (Keep (fun x => w.heap.size < x) wr w1) := Keep.grown (by (repeat (first | exact Keep.refl _ _ | exact Keep.refl _ _ | refine Keep.drew ?_ | refine Keep.drewN ?_ _ | refine Keep.alloc ?_ _ | refine Keep.setNew ?_ (by omega) _)); done) hgrow1 (fun x h1 h2 => by have := (HO.out.lt x h1).1; omega); have HO1 : Hid (OwnL inE w1 (w.heap.size + 1) 3 v1 (lostN x.f x.b 7)) := (by unfold Hid; rw [hF.out]; unfold OwnL; rw [List.length_append, inE.cs_append, inE.cs_one]; exact hown1); clear hown1 hgrow1))
        go_roundw
        case rel => exact ⟨7, by omega, by go_num, _, rfl, HO1.out, HK.out.trans HK1.out⟩
        case measure => simp [intOf]
      · rw [decide_eq_false e] at ht
        have hF : Hid (lostN x.f x.b 7 = lostN x.f x.b 6) := by unfold Hid; show lostN x.f x.b 6 ++ _ = _; rw [if_neg e, List.append_nil]
        clear e
        go_wp2
        go_roundw
        case rel => exact ⟨7, by omega, by go_num, _, rfl, by rw [hF.out]; exact HO.out, HK.out⟩
        case measure => simp [intOf]
    · have ht := tst7 ⟨x.b, hb⟩
      simp only at ht
      have hll := lostN_len x.f x.b 7
      by_cases e : x.b / 128 % 2 = 1
      · rw [decide_eq_true e] at ht
        have hF : Hid (lostN x.f x.b 8 = lostN x.f x.b 7 ++ [x.f + 7]) := by unfold Hid; show lostN x.f x.b 7 ++ _ = _; rw [if_pos e]; rfl
        clear e
        obtain ⟨ao, co, rfl, -⟩ := HO.out.slice
        go_wp2_with (at_builtin; go_loud (refine wpl_app et46 rfl (.tmp 14) (.tmp 19) rfl (w.heap.size + 1) _ _ _ rfl (HO.out.keep (S := fun _ => False) (by (repeat (first | exact Keep.refl _ _ | exact Keep.refl _ _ | refine Keep.drew ?_ | refine Keep.drewN ?_ _ | refine Keep.alloc ?_ _ | refine Keep.setNew ?_ (by omega) _)); done) (fun _ _ => id)) (.slice (some ⟨wr.heap.size, 0, none⟩) 1 1) 1 [.int .i64 (x.f + 7)] (by first | rfl | simp [Act.eval]) (Reads.new (heap_alloc_new wr _) rfl 1) (by simp [Value.oneCell']) (by unfold maxLen; omega) (by omega) (by simp; omega) ?_; intro v1 w1 hown1 hgrow1; have HK1 : Hid (Keep (fun x => w.heap.size < x) wr w1) := Keep.grown (by (repeat (first | exact Keep.refl _ _ | exact Keep.refl _ _ | refine Keep.drew ?_ | refine Keep.drewN ?_ _ | refine Keep.alloc ?_ _ | refine Keep.setNew ?_ (by omega) _)); done) hgrow1 (fun x h1 h2 => by have := (HO.out.lt x h1).1; omega); have HO1 : Hid (OwnL inE w1 (w.heap.size + 1) 3 v1 (lostN x.f x.b 8)) := (by unfold Hid; rw [hF.out]; unfold OwnL; rw [List.length_append, inE.cs_append, inE.cs_one]; exact hown1); clear hown1 hgrow1))
        go_roundw
        case rel => exact ⟨8, by omega, by go_num, _, rfl, HO1.out, HK.out.trans HK1.out⟩
        case measure => simp [intOf]
      · rw [decide_eq_false e] at ht
        have hF : Hid (lostN x.f x.b 8 = lostN x.f x.b 7) := by unfold Hid; show lostN x.f x.b 7 ++ _ = _; rw [if_neg e, List.append_nil]
        clear e
        go_wp2
        go_roundw
        case rel => exact ⟨8, by omega, by go_num, _, rfl, by rw [hF.out]; exact HO.out, HK.out⟩
        case measure => simp [intOf]
    · go_wp2
      go_ret
      exact ⟨_, rfl, HO.out.base (fun x hx => by have := (HO.out.lt x hx).1; omega), Keep.fresh (B := w.heap.size) ((KB.out.mono (T := fun x => w.heap.size ≤ x) (fun _ _ h => h.elim)).trans (HK.out.mono (T := fun x => w.heap.size ≤ x) (fun x _ h => by omega))) (fun _ h => h) (Nat.le_refl _)⟩

end Go.Proofs.Ytdomdjfecnbenaa
