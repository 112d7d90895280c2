/- Kinds: others, alone. -/
import Derived.Test.YtnjcchgbkemekaaKD
set_option linter.unusedVariables false
set_option linter.unusedSimpArgs false
namespace Go.Proofs.Ytnjcchgbkemekaa
open Go.RowKit Go.Own

theorem others_any (x : Int) (hx : x = 0 ∨ x = 1 ∨ x = 2) (w : World) : Calls Try.prog 35 #[.int .i64 x] w fun e w' => e = .returned (.agg #[.int .i64 (oth2 x).1, .int .i64 (oth2 x).2]) ∧ Keep (fun _ => False) w w' := by
  rcases hx with rfl | rfl | rfl
  · go_enter Try.func35, Try.ntmps35
    go_wp2
    obtain ⟨q1, q2⟩ := cell2b (heap_alloc_new w (.cells #[.int .i64 2, .int .i64 1] 65))
    exact bodyPost_ret (v := .agg #[.int .i64 2, .int .i64 1]) (by simp [results, Try.results35, go_sem, q1, q2]) rfl ⟨rfl, (Keep.refl _ _).alloc _⟩
  · go_enter Try.func35, Try.ntmps35
    go_wp2
    obtain ⟨q1, q2⟩ := cell2b (heap_alloc_new w (.cells #[.int .i64 2, .int .i64 0] 65))
    exact bodyPost_ret (v := .agg #[.int .i64 2, .int .i64 0]) (by simp [results, Try.results35, go_sem, q1, q2]) rfl ⟨rfl, (Keep.refl _ _).alloc _⟩
  · go_enter Try.func35, Try.ntmps35
    go_wp2
    obtain ⟨q1, q2⟩ := cell2b (heap_alloc_new w (.cells #[.int .i64 0, .int .i64 1] 65))
    exact bodyPost_ret (v := .agg #[.int .i64 0, .int .i64 1]) (by simp [results, Try.results35, go_sem, q1, q2]) rfl ⟨rfl, (Keep.refl _ _).alloc _⟩
theorem alB_true {M : Nat → Int} {a k j : Nat} (hj : j < 2 ^ (k - 3)) (h : M (a / 8 + j) = 3) : alB M a k = true := by
  unfold alB
  rw [List.any_eq_true]
  exact ⟨j, List.mem_range.mpr hj, by simp [h]⟩
theorem alB_false {M : Nat → Int} {a k : Nat} (h : ∀ j, j < 2 ^ (k - 3) → M (a / 8 + j) ≠ 3) : alB M a k = false := by
  unfold alB
  rw [List.any_eq_false]
  intro j hj
  simpa using h j (List.mem_range.mp hj)

set_option maxHeartbeats 1000000 in
theorem alone_any {w : World} {B k b kr n : Nat} {F : Nat → Bool} {M : Nat → Int} {N : Nat → Prop} (a o : Nat) (h : KO w B k b kr n F M N) (ho3 : 3 < o) (ho8 : o ≤ 8) (ha : a % 8 = 0) (he : a + 2 ^ o ≤ n) :
    Calls Try.prog 48 #[.pointer (some ⟨k, 0, none⟩), .agg #[.int .i64 (a : Int), .int .i64 (o : Int)]] w fun e w' => e = .returned (.bool (alB M a o)) ∧ Keep (fun _ => False) w w' := by
  have hn1 := h.bf.n1024
  have hpo := p2 o
  obtain ⟨P, hP, e1, e2, hpb, -⟩ := bits_k o a ho8 (by omega)
  have h8 : P = 8 * 2 ^ (o - 3) := by rw [hP]; exact p8 (by omega)
  obtain ⟨Q, hQ⟩ : ∃ Q, 2 ^ (o - 3) = Q := ⟨_, rfl⟩
  have HT : Hid (∀ j, j < Q → M (a / 8 + j) = 3 → alB M a o = true) := fun j hj h => alB_true (by rw [hQ]; exact hj) h
  have HF : Hid ((∀ j, j < Q → M (a / 8 + j) ≠ 3) → alB M a o = false) := fun h => alB_false (by rw [hQ]; exact h)
  rw [hQ] at h8
  have HO := Lib.hid h
  rw [← hP] at he
  have hend : IntKind.i64.wrap ((a : Int) + (P : Int)) = ((a + P : Nat) : Int) := wsum a P (by omega) (by omega)
  obtain ⟨E, hE⟩ : ∃ E, a + P = E := ⟨_, rfl⟩
  rw [hE] at hend he
  have HBX : Hid ((w.alloc (.cells #[.int .i64 (a : Int), .int .i64 (o : Int)] 49)).heap[w.heap.size]? = some (.cells #[.int .i64 (a : Int), .int .i64 (o : Int)] 49 (0, 0))) := heap_alloc_new w _
  have HK1 : Hid (Keep (fun _ => False) w (w.alloc (.cells #[.int .i64 (a : Int), .int .i64 (o : Int)] 49))) := (Keep.refl _ _).alloc _
  obtain ⟨c0, c1⟩ := cell2b HBX.out
  have HP := Lib.hid hP
  clear h hP hQ
  go_enter Try.func48, Try.ntmps48
  go_wp2
  obtain ⟨b3, hb3⟩ : ∃ b3, w.heap.size = b3 := ⟨_, rfl⟩
  rw [hb3] at HBX c0 c1 ⊢
  generalize w.alloc (.cells #[.int .i64 (a : Int), .int .i64 (o : Int)] 49) = w1 at HBX HK1 c0 c1 ⊢
  clear hb3 c0 c1
  go_loopw [5] (fun i wr => ∃ (t j : Nat), i = .int .i64 (t : Int) ∧ t = a + 8 * j ∧ j ≤ Q ∧ (∀ i, i < j → M (a / 8 + i) ≠ 3) ∧ Keep (fun _ => False) w1 wr) (fun i _ => 2000 - (intOf i).toNat)
  case atStart => exact ⟨a, 0, rfl, by omega, by omega, fun i hi => by omega, Keep.refl _ _⟩
  case round =>
    obtain ⟨t, j, rfl, ht, hj, hno, hk⟩ := hrel
    have HK := Lib.hid hk
    have HNO := Lib.hid hno
    have HT2 := Lib.hid ht
    have HB := Lib.hid ((hk.block b3 (block_lt HBX.out) id).trans HBX.out)
    have HW := Lib.hid (HO.out.keep0 (HK1.out.trans hk))
    obtain ⟨c0, c1⟩ := cell2b HB.out
    clear hk hno
    by_cases hlt : t < E
    · have t1 : decide ((t : Int) < (E : Int)) = true := by simp; omega
      have t2 : decide (t < E) = true := by simp; omega
      have hjQ : j < Q := by omega
      have htn : t < n := by omega
      have hdiv : t / 8 = a / 8 + j := by omega
      have HKI : Hid (∀ W, Keep (fun _ => False) wr W → Calls Try.prog 17 #[.pointer (some ⟨k, 0, none⟩), .int .i64 (t : Int)] W fun e w' => e = .returned (.int .i64 (M (a / 8 + j))) ∧ w' = W) := fun W K => by
        have h := kind_in (HW.out.keep0 K) htn
        rw [hdiv] at h; exact h
      clear ht hdiv
      by_cases h3 : M (a / 8 + j) = 3
      · have t3 : (M (a / 8 + j) == 3) = true := by simp [h3]
        have HR := Lib.hid (HT.out j hjQ h3)
        clear h3
        go_wp2
        go_quiet (fail)
        go_wp2_with (go_at_call 17; refine (HKI.out _ (by (repeat (first | exact Keep.refl _ _ | exact Keep.refl _ _ | refine Keep.drew ?_ | refine Keep.drewN ?_ _ | refine Keep.alloc ?_ _ | refine Keep.setNew ?_ (by omega) _)); done)).mono ?_; rintro e w2 ⟨rfl, rfl⟩)
        go_ret
        exact ⟨by rw [HR.out]; rfl, HK1.out.trans (by (repeat (first | exact HK.out | exact Keep.refl _ _ | refine Keep.drew ?_ | refine Keep.drewN ?_ _ | refine Keep.alloc ?_ _ | refine Keep.setNew ?_ (by omega) _)); done)⟩
      · have t3 : (M (a / 8 + j) == 3) = false := by simp [h3]
        have H3 := Lib.hid h3
        clear h3
        go_wp2
        go_quiet (fail)
        go_wp2_with (go_at_call 17; refine (HKI.out _ (by (repeat (first | exact Keep.refl _ _ | exact Keep.refl _ _ | refine Keep.drew ?_ | refine Keep.drewN ?_ _ | refine Keep.alloc ?_ _ | refine Keep.setNew ?_ (by omega) _)); done)).mono ?_; rintro e w2 ⟨rfl, rfl⟩)
        go_roundw
        case rel => exact ⟨t + 8, j + 1, by go_num, by have := HT2.out; omega, by omega, fun i hi => by
          by_cases e : i = j
          · subst e; exact H3.out
          · exact HNO.out i (by omega), (by (repeat (first | exact HK.out | exact Keep.refl _ _ | refine Keep.drew ?_ | refine Keep.drewN ?_ _ | refine Keep.alloc ?_ _ | refine Keep.setNew ?_ (by omega) _)); done)⟩
        case measure => simp [intOf]; omega
    · have t1 : decide ((t : Int) < (E : Int)) = false := by simp; omega
      have t2 : decide (t < E) = false := by simp; omega
      have HR := Lib.hid (HF.out fun i hi => HNO.out i (by omega))
      go_wp2
      go_quiet (fail)
      go_wp2
      go_ret
      exact ⟨by rw [HR.out]; rfl, HK1.out.trans (by (repeat (first | exact HK.out | exact Keep.refl _ _ | refine Keep.drew ?_ | refine Keep.drewN ?_ _ | refine Keep.alloc ?_ _ | refine Keep.setNew ?_ (by omega) _)); done)⟩

end Go.Proofs.Ytnjcchgbkemekaa
