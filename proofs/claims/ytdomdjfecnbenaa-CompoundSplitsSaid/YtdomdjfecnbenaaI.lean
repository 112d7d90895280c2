/- Compounds: awake. -/
import Derived.Test.YtdomdjfecnbenaaH
set_option linter.unusedVariables false
set_option linter.unusedSimpArgs false
namespace Go.Proofs.Ytdomdjfecnbenaa
open Go.RowKit Go.Own

set_option maxHeartbeats 1000000 in
theorem numbers_same (B C : Nat) (v u : Value) (X : List Int) (w : World) (hv : OwnL inE w B 3 v X) (hu : OwnL inE w C 3 u X) (hl : X.length ≤ 1000000) (hn : X ≠ []) :
    Calls Try.prog 24 #[v, u] w fun e w' => e = .returned (.bool true) ∧ Keep (fun _ => False) w w' := by
  obtain ⟨g, cap, rfl, hBg, hcap, hgl⟩ := hv.form hn
  obtain ⟨g2, cap2, rfl, hBg2, hcap2, hgl2⟩ := hu.form hn
  go_enter Try.func24, Try.ntmps24
  go_wp2
  go_loopw [5] (fun i wr => ∃ k : Nat, k ≤ X.length ∧ i = .int .i64 k ∧ Keep (fun _ => False) w wr) (fun i _ => X.length - (intOf i).toNat)
  case atStart => exact ⟨0, by omega, rfl, Keep.refl _ _⟩
  case round =>
    obtain ⟨k, hk, rfl, hkeep⟩ := hrel
    have HK := Lib.hid hkeep
    clear hkeep
    by_cases hlt : k < X.length
    · have c0 := in_cell (hv.keep HK.out (fun _ _ => id)) hlt
      have c1 := in_cell (hu.keep HK.out (fun _ _ => id)) hlt
      go_wp2
      go_quiet (fail)
      go_wp2
      go_roundw
      case rel => exact ⟨k + 1, by omega, by go_num, HK.out.drewN _⟩
      case measure => simp [intOf]; omega
    · go_wp2
      go_ret
      exact ⟨rfl, HK.out⟩

theorem own_lit (w : World) (X : List Int) (hl : X.length ≤ 100) : OwnL inE (w.alloc (.cells (X.map (Value.int .i64)).toArray 3)) w.heap.size 3 (.slice (some ⟨w.heap.size, 0, none⟩) X.length X.length) X := by
  have e : inE.cs X = X.map (Value.int .i64) := by
    induction X with
    | nil => rfl
    | cons x X ih => simp only [List.map_cons, ← ih (by simp at hl; omega)]; simp [Enc.cs, inE]
  refine ⟨by rw [inE.cs_length], .inr ⟨_, X.length, _, rfl, Nat.le_refl _, heap_alloc_new w _, Nat.le_refl _, by unfold maxLen; omega, by simp [inE], ?_⟩⟩
  rw [e]; simp only [inE, Nat.mul_one]; rw [List.take_of_length_le (by simp)]

set_option maxRecDepth 100000 in
set_option maxHeartbeats 2000000 in
theorem awake_any (w : World) : Calls Try.prog 9 #[] w fun e w' => e = .returned (.bool true) ∧ Keep (fun _ => False) w w' := by
  go_enter Try.func9, Try.ntmps9
  go_wp2_with fail
  refine (new_any w.heap.size _ (Nat.le_refl _)).mono ?_
  rintro e w1 ⟨p, rfl, hR, hp, hk⟩
  have H1 := Lib.hid hR
  have K1 : Hid (Keep (fun x => w.heap.size ≤ x) w w1) := hk.mono (fun _ _ h => h.elim)
  clear hR hk
  go_wp2_with fail
  refine (make_first w.heap.size p _ _ [] 8 (by omega) (by omega) _ K1.out.size H1.out).mono ?_
  rintro e w2 ⟨v2, rfl, hR, hk, -⟩
  have H2 : Hid (RepC w2 w.heap.size p v2 (.slice none 0 0) [⟨8, 0⟩] []) := hR
  have K2 := Lib.hid (K1.out.trans (hk.mono (T := fun x => w.heap.size ≤ x) (fun _ _ h => by omega)))
  clear hR hk K1
  go_wp2_with fail
  have hv2 := H2.out.hv.lt
  refine (lose_first w.heap.size p _ _ [⟨8, 0⟩] [] 9 0 (by omega) _ K2.out.size H2.out rfl (by simp) rfl (by simp)).mono ?_
  rintro e w3 ⟨u3, rfl, hR, hk, -⟩
  have H3 : Hid (RepC w3 w.heap.size p v2 u3 [⟨8, 2⟩] [8]) := hR
  have K3 := Lib.hid (K2.out.trans (hk.mono (T := fun x => w.heap.size ≤ x) (fun x _ h => by rcases h with rfl | h; exact hp; exact (hv2 x h).1)))
  clear hR hk K2 hv2
  go_wp2_with fail
  have hv3 := H3.out.hv.lt
  refine (lose_more w.heap.size p _ _ [⟨8, 2⟩] [8] 10 0 (by omega) _ K3.out.size H3.out rfl (by simp) (by decide) (by decide)).mono ?_
  rintro e w4 ⟨v4, u4, L4, Q4, whole, rfl, hL, hR, hk, -, -⟩
  obtain ⟨rfl, rfl, rfl⟩ := hL.b (by decide)
  have H4 : Hid (RepC w4 w.heap.size p v4 u4 [⟨8, 6⟩] [8]) := hR
  have K4 := Lib.hid (K3.out.trans (hk.mono (T := fun x => w.heap.size ≤ x) (fun x _ h => by rcases h with rfl | h; exact hp; exact (hv3 x h).1)))
  clear hR hk K3 hv3 hL
  go_wp2_with fail
  refine (next_yes w.heap.size p _ _ [⟨8, 6⟩] [] 8 0 (by omega) _ H4.out rfl (by simp)).mono ?_
  unfold cpV
  rintro e w5 ⟨rfl, hk⟩
  simp only [List.getElem_cons_zero]
  have H5 := Lib.hid (H4.out.keep0 (hk.alloc (.cells #[.int .i64 8, .int .u8 6] 39)))
  have K5 := Lib.hid (K4.out.trans ((hk.alloc (.cells #[.int .i64 8, .int .u8 6] 39)).mono (T := fun x => w.heap.size ≤ x) (fun _ _ h => h.elim)))
  have HB : Hid ((w5.alloc (.cells #[.int .i64 8, .int .u8 6] 39)).heap[w5.heap.size]? = some (.cells #[.int .i64 8, .int .u8 6] 39 (0, 0))) := heap_alloc_new w5 _
  have hp5 := block_lt (H4.out.keep0 hk).hp
  clear hk K4
  go_wp2_with fail
  refine (lost_two w.heap.size p _ _ [8] _ H5.out).mono ?_
  rintro e w6 ⟨rfl, hk⟩
  have H6 := Lib.hid (H5.out.keep0 hk)
  have K6 := Lib.hid (K5.out.trans (hk.mono (T := fun x => w.heap.size ≤ x) (fun _ _ h => h.elim)))
  have HB6 := Lib.hid ((hk.block _ (block_lt HB.out) id).trans HB.out)
  clear hk K5 HB
  go_wp2_with fail
  refine (split86 w.heap.size p _ _ [8] _ K6.out.size H6.out).mono ?_
  rintro e w7 ⟨v7, u7, y7, rfl, hR, hO, hk⟩
  have H7 := Lib.hid hR
  have HO7 := Lib.hid hO
  have K7 := Lib.hid (K6.out.trans (hk.mono (T := fun x => w.heap.size ≤ x) (fun _ _ h => by omega)))
  have HB7 := Lib.hid ((hk.block _ (block_lt HB6.out) (by omega)).trans HB6.out)
  clear hk hR hO K6 HB6
  obtain ⟨b0, b1⟩ := cells2 HB7.out
  obtain ⟨a7, c7, rfl, -⟩ := HO7.out.slice
  go_wp2_with (first | (go_at_call 24; go_loud (refine (numbers_same w6.heap.size w7.heap.size _ _ [9, 10] _ (HO7.out.keep (S := fun _ => False) (by (repeat (first | exact Keep.refl _ _ | exact Keep.refl _ _ | refine Keep.drew ?_ | refine Keep.drewN ?_ _ | refine Keep.alloc ?_ _ | refine Keep.setNew ?_ (by omega) _)); done) (fun _ _ => id)) (own_lit w7 [9, 10] (by simp)) (by simp) (by simp)).mono ?_; rintro e w8 ⟨rfl, hk8⟩; have HK8 : Hid (Keep (fun _ => False) w7 w8) := Keep.trans (by (repeat (first | exact Keep.refl _ _ | exact Keep.refl _ _ | refine Keep.drew ?_ | refine Keep.drewN ?_ _ | refine Keep.alloc ?_ _ | refine Keep.setNew ?_ (by omega) _)); done) hk8; clear hk8)) | (go_at_call 19; go_loud (refine (lost_zero w.heap.size p _ _ _ _ (H7.out.keep0 HK8.out)).mono ?_; rintro e w9 ⟨rfl, hk9⟩; have HK9 := Lib.hid (HK8.out.trans hk9); clear hk9)))
  go_ret
  exact ⟨rfl, (K7.out.trans (HK9.out.mono (T := fun x => w.heap.size ≤ x) (fun _ _ h => h.elim))).mono (fun x h1 h2 => by omega)⟩

end Go.Proofs.Ytdomdjfecnbenaa
