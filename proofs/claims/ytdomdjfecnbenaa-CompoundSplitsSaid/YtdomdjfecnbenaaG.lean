/- Compounds: Next, lost, Lost, Split, Numbers. -/
import Derived.Test.YtdomdjfecnbenaaF
set_option linter.unusedVariables false
set_option linter.unusedSimpArgs false
namespace Go.Proofs.Ytdomdjfecnbenaa
open Go.RowKit Go.Own

set_option maxHeartbeats 1000000 in
theorem next_yes (B p : Nat) (v u : Value) (L : List Cp) (Q : List Int) (x k : Nat) (hx : x < 1024) (w : World) (hR : RepC w B p v u L (x :: Q)) (hn : whI L ((x / 8 * 8 : Nat) : Int) = k) (hk : k < L.length) :
    Calls Try.prog 15 #[.pointer (some ⟨p, 0, none⟩)] w fun e w' => e = .returned (.tuple #[cpV L[k], .bool true]) ∧ Keep (fun _ => False) w w' := by
  obtain ⟨g, cap, rfl, hBg, hcap, hgl⟩ := hR.hu.form (by simp)
  have hq := hR.hq
  have KB : Hid (Keep (fun _ => False) w (w.alloc (.cells #[.int .i64 0, .int .u8 0] 39))) := (Keep.refl _ _).alloc _
  have HB : Hid ((w.alloc (.cells #[.int .i64 0, .int .u8 0] 39)).heap[w.heap.size]? = some (.cells #[.int .i64 0, .int .u8 0] 39 (0, 0))) := heap_alloc_new w _
  have hRB := Lib.hid (hR.keep0 KB.out)
  have hc1 := hRB.out.c1
  have c0 := in_cell (i := 0) hRB.out.hu (by simp)
  simp only [List.getElem_cons_zero] at c0
  have hlen : (0 : Nat) < ((x : Int) :: Q).length := by simp
  have hlen' : ((((x : Int) :: Q).length : Int) == 0) = false := by simp; omega
  go_enter Try.func15, Try.ntmps15
  go_wp2_with (go_at_call 23; go_loud (refine (get_yes B p v _ L _ x k hx _ hRB.out hn hk).mono ?_; unfold cpV; rintro e w1 ⟨rfl, hk1⟩; have hbk := (hk1.block _ (block_lt HB.out) id).trans HB.out; have hbz := block_lt hbk; obtain ⟨b0, b1⟩ := cells2 hbk; have f0 : w1.frozen? ⟨w.heap.size, 0, none⟩ = false := frozen_block hbk; have f1 : w1.frozen? ⟨w.heap.size, 1, none⟩ = false := frozen_block hbk))
  refine bodyPost_ret (v := .tuple #[cpV L[k], .bool true]) ?_ rfl ⟨rfl, ?_⟩
  · simp [results, Try.results15, go_sem, cpV, b0, b1, hbz]
  · exact (by (repeat (first | exact KB.out.trans hk1 | exact Keep.refl _ _ | refine Keep.drew ?_ | refine Keep.drewN ?_ _ | refine Keep.alloc ?_ _ | refine Keep.setNew ?_ (by omega) _)); done)

def lostN (f : Int) (b : Nat) : Nat → List Int
  | 0 => []
  | k + 1 => lostN f b k ++ if b / 2 ^ k % 2 = 1 then [f + k] else []

set_option maxHeartbeats 4000000 in
theorem lost86 (w : World) :
    Calls Try.prog 32 #[.agg #[.int .i64 8, .int .u8 6]] w fun e w' => ∃ v', e = .returned v' ∧ OwnL inE w' w.heap.size 3 v' [9, 10] ∧ Keep (fun _ => False) w w' := by
  have KB : Hid (Keep (fun _ => False) w (w.alloc (.cells #[.int .i64 8, .int .u8 6] 39))) := (Keep.refl _ _).alloc _
  have HB : Hid ((w.alloc (.cells #[.int .i64 8, .int .u8 6] 39)).heap[w.heap.size]? = some (.cells #[.int .i64 8, .int .u8 6] 39 (0, 0))) := heap_alloc_new w _
  go_enter Try.func32, Try.ntmps32
  go_wp2
  go_loopw [3, 5] (fun o i wr => ∃ k : Nat, k ≤ 8 ∧ i = .int .i64 k ∧ ∃ o' : Value, o' = o ∧ OwnL inE wr (w.heap.size + 1) 3 o' (lostN 8 6 k) ∧ Keep (fun x => w.heap.size < x) (w.alloc (.cells #[.int .i64 8, .int .u8 6] 39)) wr) (fun _ i _ => 8 - (intOf i).toNat)
  case atStart => exact ⟨0, by omega, rfl, _, rfl, OwnL.nil _ _ _, Keep.refl _ _⟩
  case round =>
    obtain ⟨k, hk, rfl, o, ho, hO, hkeep⟩ := hrel
    subst ho
    have HO := Lib.hid hO
    have HK := Lib.hid hkeep
    obtain ⟨b0, b1⟩ := cells2 ((hkeep.block _ (block_lt HB.out) (by omega)).trans HB.out)
    have hsz := hkeep.size
    simp at hsz
    clear hO hkeep
    have hc : k = 0 ∨ k = 1 ∨ k = 2 ∨ k = 3 ∨ k = 4 ∨ k = 5 ∨ k = 6 ∨ k = 7 ∨ k = 8 := by omega
    rcases hc with rfl | rfl | rfl | rfl | rfl | rfl | rfl | rfl | rfl
    · have HO2 : Hid (OwnL inE wr (w.heap.size + 1) 3 o []) := HO.out
      clear HO
      obtain ⟨ao, co, rfl, -⟩ := HO2.out.slice
      go_wp2
      go_roundw
      case rel => exact ⟨1, by omega, by go_num, _, rfl, HO2.out, HK.out⟩
      case measure => simp [intOf]
    · have HO2 : Hid (OwnL inE wr (w.heap.size + 1) 3 o []) := HO.out
      clear HO
      obtain ⟨ao, co, rfl, -⟩ := HO2.out.slice
      go_wp2_with (at_builtin; go_loud (refine wpl_app et46 rfl (.tmp 14) (.tmp 19) rfl (w.heap.size + 1) _ _ _ rfl (HO2.out.keep (S := fun _ => False) (by (repeat (first | exact Keep.refl _ _ | exact Keep.refl _ _ | refine Keep.drew ?_ | refine Keep.drewN ?_ _ | refine Keep.alloc ?_ _ | refine Keep.setNew ?_ (by omega) _)); done) (fun _ _ => id)) (.slice (some ⟨wr.heap.size, 0, none⟩) 1 1) 1 [.int .i64 9] rfl (Reads.new (heap_alloc_new wr _) rfl 1) (by simp [Value.oneCell']) (by unfold maxLen; simp) (by simp) (by simp; omega) ?_; intro v1 w1 hown1 hgrow1; have HK1 : Hid (Keep (fun x => w.heap.size < x) wr w1) := Keep.grown (by (repeat (first | exact Keep.refl _ _ | exact Keep.refl _ _ | refine Keep.drew ?_ | refine Keep.drewN ?_ _ | refine Keep.alloc ?_ _ | refine Keep.setNew ?_ (by omega) _)); done) hgrow1 (fun x h1 h2 => by have := (HO2.out.lt x h1).1; omega); have HO1 : Hid (OwnL inE w1 (w.heap.size + 1) 3 v1 [9]) := hown1; clear hown1 hgrow1))
      go_roundw
      case rel => exact ⟨2, by omega, by go_num, _, rfl, HO1.out, HK.out.trans HK1.out⟩
      case measure => simp [intOf]
    · have HO2 : Hid (OwnL inE wr (w.heap.size + 1) 3 o [9]) := HO.out
      clear HO
      obtain ⟨ao, co, rfl, -⟩ := HO2.out.slice
      go_wp2_with (at_builtin; go_loud (refine wpl_app et46 rfl (.tmp 14) (.tmp 19) rfl (w.heap.size + 1) _ _ _ rfl (HO2.out.keep (S := fun _ => False) (by (repeat (first | exact Keep.refl _ _ | exact Keep.refl _ _ | refine Keep.drew ?_ | refine Keep.drewN ?_ _ | refine Keep.alloc ?_ _ | refine Keep.setNew ?_ (by omega) _)); done) (fun _ _ => id)) (.slice (some ⟨wr.heap.size, 0, none⟩) 1 1) 1 [.int .i64 10] rfl (Reads.new (heap_alloc_new wr _) rfl 1) (by simp [Value.oneCell']) (by unfold maxLen; simp) (by simp) (by simp; omega) ?_; intro v1 w1 hown1 hgrow1; have HK1 : Hid (Keep (fun x => w.heap.size < x) wr w1) := Keep.grown (by (repeat (first | exact Keep.refl _ _ | exact Keep.refl _ _ | refine Keep.drew ?_ | refine Keep.drewN ?_ _ | refine Keep.alloc ?_ _ | refine Keep.setNew ?_ (by omega) _)); done) hgrow1 (fun x h1 h2 => by have := (HO2.out.lt x h1).1; omega); have HO1 : Hid (OwnL inE w1 (w.heap.size + 1) 3 v1 [9, 10]) := hown1; clear hown1 hgrow1))
      go_roundw
      case rel => exact ⟨3, by omega, by go_num, _, rfl, HO1.out, HK.out.trans HK1.out⟩
      case measure => simp [intOf]
    · have HO2 : Hid (OwnL inE wr (w.heap.size + 1) 3 o [9, 10]) := HO.out
      clear HO
      obtain ⟨ao, co, rfl, -⟩ := HO2.out.slice
      go_wp2
      go_roundw
      case rel => exact ⟨4, by omega, by go_num, _, rfl, HO2.out, HK.out⟩
      case measure => simp [intOf]
    · have HO2 : Hid (OwnL inE wr (w.heap.size + 1) 3 o [9, 10]) := HO.out
      clear HO
      obtain ⟨ao, co, rfl, -⟩ := HO2.out.slice
      go_wp2
      go_roundw
      case rel => exact ⟨5, by omega, by go_num, _, rfl, HO2.out, HK.out⟩
      case measure => simp [intOf]
    · have HO2 : Hid (OwnL inE wr (w.heap.size + 1) 3 o [9, 10]) := HO.out
      clear HO
      obtain ⟨ao, co, rfl, -⟩ := HO2.out.slice
      go_wp2
      go_roundw
      case rel => exact ⟨6, by omega, by go_num, _, rfl, HO2.out, HK.out⟩
      case measure => simp [intOf]
    · have HO2 : Hid (OwnL inE wr (w.heap.size + 1) 3 o [9, 10]) := HO.out
      clear HO
      obtain ⟨ao, co, rfl, -⟩ := HO2.out.slice
      go_wp2
      go_roundw
      case rel => exact ⟨7, by omega, by go_num, _, rfl, HO2.out, HK.out⟩
      case measure => simp [intOf]
    · have HO2 : Hid (OwnL inE wr (w.heap.size + 1) 3 o [9, 10]) := HO.out
      clear HO
      obtain ⟨ao, co, rfl, -⟩ := HO2.out.slice
      go_wp2
      go_roundw
      case rel => exact ⟨8, by omega, by go_num, _, rfl, HO2.out, HK.out⟩
      case measure => simp [intOf]
    · have HO2 : Hid (OwnL inE wr (w.heap.size + 1) 3 o [9, 10]) := HO.out
      clear HO
      obtain ⟨ao, co, rfl, -⟩ := HO2.out.slice
      go_wp2
      go_ret
      exact ⟨_, rfl, HO2.out.base (fun x hx => by have := (HO2.out.lt x hx).1; omega), Keep.fresh (B := w.heap.size) ((KB.out.mono (T := fun x => w.heap.size ≤ x) (fun _ _ h => h.elim)).trans (HK.out.mono (T := fun x => w.heap.size ≤ x) (fun x _ h => by omega))) (fun _ h => h) (Nat.le_refl _)⟩

end Go.Proofs.Ytdomdjfecnbenaa
