/- Buddy: TakeAt, Take, Greatest. -/
import Derived.Test.YtnjcchgbkemekaaI
set_option linter.unusedVariables false
set_option linter.unusedSimpArgs false
namespace Go.Proofs.Ytnjcchgbkemekaa
open Go.RowKit Go.Own

theorem cell2b {w : World} {b e : Nat} {x y : Value} {z : Nat × Nat} (h : w.heap[b]? = some (.cells #[x, y] e z)) : w.cell? ⟨b, 0, none⟩ = some x ∧ w.cell? ⟨b, 1, none⟩ = some y := by simp [cell_block h]

set_option maxHeartbeats 1000000 in
theorem takeAt_bad {w : World} {B p n : Nat} {F : Nat → Bool} {G : Nat → Prop} (f o : Int) (h : BF w B p n F G) (hw : wrE n f o ≠ 0) :
    Calls Try.prog 36 #[.pointer (some ⟨p, 0, none⟩), .int .i64 f, .int .i64 o] w fun e w' => e = .returned (.int .i64 (wrE n f o)) ∧ Keep (fun _ => False) w w' := by
  obtain ⟨S, h1, h2, h3⟩ := h
  have HW := Lib.hid (wrong_any f o h1)
  obtain ⟨z, hz⟩ : ∃ z, wrE n f o = z := ⟨_, rfl⟩
  rw [hz] at hw HW ⊢
  have t1 : (z != 0) = true := by rw [bne_iff_ne]; exact hw
  clear hz hw
  go_enter Try.func36, Try.ntmps36
  go_wp2_with (go_at_call 49; refine HW.out.mono ?_; rintro e w1 ⟨rfl, hk1⟩)
  go_ret
  exact ⟨rfl, hk1⟩

set_option maxRecDepth 100000 in
set_option maxHeartbeats 2000000 in
theorem takeAt_busy {w : World} {B p n f o : Nat} {F : Nat → Bool} {G : Nat → Prop} (h : BF w B p n F G) (hw : wrE n f o = 0) (ho : o ≤ 8) (hfo : f % 2 ^ o = 0) (hfn : f + 2 ^ o ≤ n) (hb : ¬ blk F o f) :
    Calls Try.prog 36 #[.pointer (some ⟨p, 0, none⟩), .int .i64 (f : Int), .int .i64 (o : Int)] w fun e w' => e = .returned (.int .i64 12) ∧ Keep (fun _ => False) w w' := by
  have hpo := p2 o
  obtain ⟨S, h1, h2, h3⟩ := h
  have HW := Lib.hid (wrong_any f o h1)
  rw [hw] at HW
  cases hF : F f with
  | false =>
    have HH := Lib.hid (fun W (K : Keep (fun _ => False) w W) => holder_no (h1.keep0 K) h2 (by omega) hF)
    clear h1 h2 h3 hw hb hF hfo hfn hpo
    go_enter Try.func36, Try.ntmps36
    go_wp2_with (first | (go_at_call 49; refine HW.out.mono ?_; rintro e w1 ⟨rfl, hk1⟩; have HK1 := Lib.hid hk1; clear hk1) | (go_at_call 50; refine (HH.out _ HK1.out).mono ?_; rintro e w2 ⟨rfl, hk2⟩; have HK2 := Lib.hid (HK1.out.trans hk2); clear hk2))
    go_ret
    exact ⟨rfl, (by (repeat (first | exact HK2.out | exact Keep.refl _ _ | refine Keep.drew ?_ | refine Keep.drewN ?_ _ | refine Keep.alloc ?_ _ | refine Keep.setNew ?_ (by omega) _)); done)⟩
  | true =>
    have HH : Hid (∀ W, Keep (fun _ => False) w W → Calls Try.prog 50 #[.pointer (some ⟨p, 0, none⟩), .int .i64 (f : Int)] W fun e w' => ∃ d k : Nat, (k : Int) < (o : Int) ∧ e = .returned (.tuple #[.agg #[.int .i64 (d : Int), .int .i64 (k : Int)], .bool true]) ∧ Keep (fun _ => False) W w') := fun W K => by
      refine (holder_yes (h1.keep0 K) h2 (by omega) hF).mono ?_
      rintro e w' ⟨k, hm, rfl, hk⟩
      refine ⟨_, k, ?_, rfl, hk⟩
      have : ¬ o ≤ k := fun h => hb ((mx_over hm ho hfo).mpr h)
      omega
    clear h1 h2 h3 hw hb hF hfo hfn hpo
    go_enter Try.func36, Try.ntmps36
    go_wp2_with (first | (go_at_call 49; refine HW.out.mono ?_; rintro e w1 ⟨rfl, hk1⟩; have HK1 := Lib.hid hk1; clear hk1) | (go_at_call 50; refine (HH.out _ HK1.out).mono ?_; rintro e w2 ⟨d, k, hko, rfl, hk2⟩; have HK2 := Lib.hid (HK1.out.trans hk2); clear hk2; obtain ⟨q0, q1⟩ := cell2b (heap_alloc_new w2 (.cells #[.int .i64 (d : Int), .int .i64 (k : Int)] 49))))
    go_ret
    exact ⟨rfl, (by (repeat (first | exact HK2.out | exact Keep.refl _ _ | refine Keep.drew ?_ | refine Keep.drewN ?_ _ | refine Keep.alloc ?_ _ | refine Keep.setNew ?_ (by omega) _)); done)⟩

set_option maxRecDepth 100000 in
set_option maxHeartbeats 2000000 in
theorem takeAt_ok {w : World} {B p n f o : Nat} {F : Nat → Bool} {G : Nat → Prop} (hB : B ≤ w.heap.size) (h : BF w B p n F G) (hG : ∀ x, G x → x < w.heap.size) (hw : wrE n f o = 0) (ho : o ≤ 8) (hfo : f % 2 ^ o = 0) (hfn : f + 2 ^ o ≤ n) (hb : blk F o f) :
    Calls Try.prog 36 #[.pointer (some ⟨p, 0, none⟩), .int .i64 (f : Int), .int .i64 (o : Int)] w fun e w' => e = .returned (.int .i64 0) ∧ TookC w w' B p n (subB F o f) G := by
  have hpo := p2 o
  have HBF := Lib.hid h
  have HG := Lib.hid hG
  obtain ⟨S, h1, h2, h3⟩ := h
  have HW := Lib.hid (wrong_any f o h1)
  rw [hw] at HW
  have HH : Hid (∀ W, Keep (fun _ => False) w W → Calls Try.prog 50 #[.pointer (some ⟨p, 0, none⟩), .int .i64 (f : Int)] W fun e w' => ∃ d k : Nat, ¬ ((k : Int) < (o : Int)) ∧ (∀ W', Keep (fun _ => False) w W' → Calls Try.prog 51 #[.pointer (some ⟨p, 0, none⟩), .agg #[.int .i64 (d : Int), .int .i64 (k : Int)], .int .i64 (f : Int), .int .i64 (o : Int)] W' fun e w' => e = .returned (.tuple #[]) ∧ TookC W' w' B p n (subB F o f) G) ∧ e = .returned (.tuple #[.agg #[.int .i64 (d : Int), .int .i64 (k : Int)], .bool true]) ∧ Keep (fun _ => False) W w') := fun W K => by
    refine (holder_yes (h1.keep0 K) h2 (by omega) (hb f (Nat.le_refl _) (by omega))).mono ?_
    rintro e w' ⟨k, hm, rfl, hk⟩
    have hok := (mx_over hm ho hfo).mp hb
    obtain ⟨r1, r2⟩ := mx_in hm hok hfo
    exact ⟨_, k, by omega, fun W' K' => carve_bf (Nat.le_trans hB K'.size) (HBF.out.keep0 K') hm hok hfo r1 r2 (fun x hx => Nat.lt_of_lt_of_le (HG.out x hx) K'.size), rfl, hk⟩
  clear h1 h2 h3 hw hb hfo hfn hpo hG
  go_enter Try.func36, Try.ntmps36
  go_wp2_with (first | (go_at_call 49; refine HW.out.mono ?_; rintro e w1 ⟨rfl, hk1⟩; have HK1 := Lib.hid hk1; clear hk1) | (go_at_call 50; refine (HH.out _ HK1.out).mono ?_; rintro e w2 ⟨d, k, hko, hcv, rfl, hk2⟩; have HCV := Lib.hid hcv; have HK2 := Lib.hid (HK1.out.trans hk2); clear hk2 hcv; obtain ⟨q0, q1⟩ := cell2b (heap_alloc_new w2 (.cells #[.int .i64 (d : Int), .int .i64 (k : Int)] 49))) | (go_at_call 51; refine (HCV.out _ (by (repeat (first | exact HK2.out | exact Keep.refl _ _ | refine Keep.drew ?_ | refine Keep.drewN ?_ _ | refine Keep.alloc ?_ _ | refine Keep.setNew ?_ (by omega) _)); done)).mono ?_; rintro e w3 ⟨rfl, ht3⟩; have HT3 := Lib.hid ht3; clear ht3))
  go_ret
  exact ⟨rfl, took_on HT3.out (by (repeat (first | exact HK2.out | exact Keep.refl _ _ | refine Keep.drew ?_ | refine Keep.drewN ?_ _ | refine Keep.alloc ?_ _ | refine Keep.setNew ?_ (by omega) _)); done)⟩

theorem li_mem (S : Nat → Nat → Bool) (n k : Nat) (x : Int) : x ∈ li S n k ↔ ∃ a : Nat, a < n ∧ S k a = true ∧ x = a := by
  unfold li
  rw [List.mem_map]
  constructor
  · rintro ⟨a, ha, rfl⟩
    rw [ls_mem] at ha
    exact ⟨a, ha.1, ha.2, rfl⟩
  · rintro ⟨a, h1, h2, rfl⟩
    exact ⟨a, (ls_mem S n k a).mpr ⟨h1, h2⟩, rfl⟩
theorem mx_lt {F : Nat → Bool} {n k a : Nat} (hF : ∀ i, F i = true → i < n) (h : mx F k a) : a < n := hF a (h.2.2.1 a (Nat.le_refl _) (by have := p2 k; omega))
theorem li_nil {S : Nat → Nat → Bool} {F : Nat → Bool} {n k : Nat} (hR : Rp S F) (hF : ∀ i, F i = true → i < n) (hk : k ≤ 8) (h : li S n k = []) (b : Nat) : ¬ mx F k b := fun hm => by
  have : (b : Int) ∈ li S n k := (li_mem S n k b).mpr ⟨b, mx_lt hF hm, (hR k b hk).mpr hm, rfl⟩
  rw [h] at this; cases this
theorem li_head {S : Nat → Nat → Bool} {F : Nat → Bool} {n k : Nat} (hR : Rp S F) (hF : ∀ i, F i = true → i < n) (hk : k ≤ 8) {x : Int} {T : List Int} (h : li S n k = x :: T) : ∃ a : Nat, x = a ∧ mx F k a ∧ ∀ b, b < a → ¬ mx F k b := by
  obtain ⟨a, h1, h2, rfl⟩ := (li_mem S n k x).mp (by rw [h]; exact List.mem_cons_self ..)
  refine ⟨a, rfl, (hR k a hk).mp h2, fun b hb hm => ?_⟩
  have hs := li_sorted S n k
  have hm2 : (b : Int) ∈ li S n k := (li_mem S n k b).mpr ⟨b, mx_lt hF hm, (hR k b hk).mpr hm, rfl⟩
  rw [h] at hs hm2
  rcases List.mem_cons.mp hm2 with e | hm2
  · omega
  · have := (List.pairwise_cons.mp hs).1 _ hm2
    omega

/-- What Take answers. -/
def TakeB (w : World) (B p n o : Nat) (F : Nat → Bool) (G : Nat → Prop) (e : Ending) (w' : World) : Prop :=
  (∃ k a, o ≤ k ∧ mx F k a ∧ (∀ j b, o ≤ j → j < k → ¬ mx F j b) ∧ (∀ b, b < a → ¬ mx F k b) ∧ e = .returned (.tuple #[.int .i64 (a : Nat), .int .i64 0]) ∧ TookC w w' B p n (subB F o a) G) ∨
  ((∀ j b, o ≤ j → ¬ mx F j b) ∧ e = .returned (.tuple #[.int .i64 0, .int .i64 8]) ∧ Keep (fun _ => False) w w')

set_option maxHeartbeats 400000 in
theorem takeAt_nil (f o : Int) (w : World) : Calls Try.prog 36 #[.pointer none, .int .i64 f, .int .i64 o] w fun e w' => e = .returned (.int .i64 1) ∧ Keep (fun _ => False) w w' := by
  go_enter Try.func36, Try.ntmps36
  go_wp2_with (go_at_call 49; refine (wrong_nil f o _).mono ?_; rintro e w1 ⟨rfl, hk1⟩)
  go_ret
  exact ⟨rfl, hk1⟩

end Go.Proofs.Ytnjcchgbkemekaa
