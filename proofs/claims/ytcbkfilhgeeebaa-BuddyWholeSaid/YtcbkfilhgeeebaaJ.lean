/- Buddy: TakeAt, Take, Greatest. -/
import Derived.Test.YtcbkfilhgeeebaaI
set_option linter.unusedVariables false
set_option linter.unusedSimpArgs false
namespace Go.Proofs.Ytcbkfilhgeeebaa
open Go.RowKit Go.Own

theorem cell2b {w : World} {b e : Nat} {x y : Value} {z : Nat × Nat} (h : w.heap[b]? = some (.cells #[x, y] e z)) : w.cell? ⟨b, 0, none⟩ = some x ∧ w.cell? ⟨b, 1, none⟩ = some y := by simp [cell_block h]

set_option maxHeartbeats 1000000 in
theorem takeAt_bad {w : World} {B p n : Nat} {F : Nat → Bool} {G : Nat → Prop} (f o : Int) (h : BF w B p n F G) (hw : wrE n f o ≠ 0) :
    Calls Try.prog 19 #[.pointer (some ⟨p, 0, none⟩), .int .i64 f, .int .i64 o] w fun e w' => e = .returned (.int .i64 (wrE n f o)) ∧ Keep (fun _ => False) w w' := by
  obtain ⟨S, h1, h2, h3⟩ := h
  have HW := Lib.hid (wrong_any f o h1)
  obtain ⟨z, hz⟩ : ∃ z, wrE n f o = z := ⟨_, rfl⟩
  rw [hz] at hw HW ⊢
  have t1 : (z != 0) = true := by rw [bne_iff_ne]; exact hw
  clear hz hw
  go_enter Try.func19, Try.ntmps19
  go_wp2_with (go_at_call 37; refine HW.out.mono ?_; rintro e w1 ⟨rfl, hk1⟩)
  go_ret
  exact ⟨rfl, hk1⟩

set_option maxRecDepth 100000 in
set_option maxHeartbeats 2000000 in
theorem takeAt_busy {w : World} {B p n f o : Nat} {F : Nat → Bool} {G : Nat → Prop} (h : BF w B p n F G) (hw : wrE n f o = 0) (ho : o ≤ 8) (hfo : f % 2 ^ o = 0) (hfn : f + 2 ^ o ≤ n) (hb : ¬ blk F o f) :
    Calls Try.prog 19 #[.pointer (some ⟨p, 0, none⟩), .int .i64 (f : Int), .int .i64 (o : Int)] w fun e w' => e = .returned (.int .i64 12) ∧ Keep (fun _ => False) w w' := by
  have hpo := p2 o
  obtain ⟨S, h1, h2, h3⟩ := h
  have HW := Lib.hid (wrong_any f o h1)
  rw [hw] at HW
  cases hF : F f with
  | false =>
    have HH := Lib.hid (fun W (K : Keep (fun _ => False) w W) => holder_no (h1.keep0 K) h2 (by omega) hF)
    clear h1 h2 h3 hw hb hF hfo hfn hpo
    go_enter Try.func19, Try.ntmps19
    go_wp2_with (first | (go_at_call 37; refine HW.out.mono ?_; rintro e w1 ⟨rfl, hk1⟩; have HK1 := Lib.hid hk1; clear hk1) | (go_at_call 31; refine (HH.out _ HK1.out).mono ?_; rintro e w2 ⟨rfl, hk2⟩; have HK2 := Lib.hid (HK1.out.trans hk2); clear hk2))
    go_ret
    exact ⟨rfl, (by (repeat (first | exact HK2.out | exact Keep.refl _ _ | refine Keep.drew ?_ | refine Keep.drewN ?_ _ | refine Keep.alloc ?_ _ | refine Keep.setNew ?_ (by omega) _)); done)⟩
  | true =>
    have HH : Hid (∀ W, Keep (fun _ => False) w W → Calls Try.prog 31 #[.pointer (some ⟨p, 0, none⟩), .int .i64 (f : Int)] W fun e w' => ∃ d k : Nat, (k : Int) < (o : Int) ∧ e = .returned (.tuple #[.agg #[.int .i64 (d : Int), .int .i64 (k : Int)], .bool true]) ∧ Keep (fun _ => False) W w') := fun W K => by
      refine (holder_yes (h1.keep0 K) h2 (by omega) hF).mono ?_
      rintro e w' ⟨k, hm, rfl, hk⟩
      refine ⟨_, k, ?_, rfl, hk⟩
      have : ¬ o ≤ k := fun h => hb ((mx_over hm ho hfo).mpr h)
      omega
    clear h1 h2 h3 hw hb hF hfo hfn hpo
    go_enter Try.func19, Try.ntmps19
    go_wp2_with (first | (go_at_call 37; refine HW.out.mono ?_; rintro e w1 ⟨rfl, hk1⟩; have HK1 := Lib.hid hk1; clear hk1) | (go_at_call 31; refine (HH.out _ HK1.out).mono ?_; rintro e w2 ⟨d, k, hko, rfl, hk2⟩; have HK2 := Lib.hid (HK1.out.trans hk2); clear hk2; obtain ⟨q0, q1⟩ := cell2b (heap_alloc_new w2 (.cells #[.int .i64 (d : Int), .int .i64 (k : Int)] 55))))
    go_ret
    exact ⟨rfl, (by (repeat (first | exact HK2.out | exact Keep.refl _ _ | refine Keep.drew ?_ | refine Keep.drewN ?_ _ | refine Keep.alloc ?_ _ | refine Keep.setNew ?_ (by omega) _)); done)⟩

set_option maxRecDepth 100000 in
set_option maxHeartbeats 2000000 in
theorem takeAt_ok {w : World} {B p n f o : Nat} {F : Nat → Bool} {G : Nat → Prop} (hB : B ≤ w.heap.size) (h : BF w B p n F G) (hG : ∀ x, G x → x < w.heap.size) (hw : wrE n f o = 0) (ho : o ≤ 8) (hfo : f % 2 ^ o = 0) (hfn : f + 2 ^ o ≤ n) (hb : blk F o f) :
    Calls Try.prog 19 #[.pointer (some ⟨p, 0, none⟩), .int .i64 (f : Int), .int .i64 (o : Int)] w fun e w' => e = .returned (.int .i64 0) ∧ TookC w w' B p n (subB F o f) G := by
  have hpo := p2 o
  have HBF := Lib.hid h
  have HG := Lib.hid hG
  obtain ⟨S, h1, h2, h3⟩ := h
  have HW := Lib.hid (wrong_any f o h1)
  rw [hw] at HW
  have HH : Hid (∀ W, Keep (fun _ => False) w W → Calls Try.prog 31 #[.pointer (some ⟨p, 0, none⟩), .int .i64 (f : Int)] W fun e w' => ∃ d k : Nat, ¬ ((k : Int) < (o : Int)) ∧ (∀ W', Keep (fun _ => False) w W' → Calls Try.prog 30 #[.pointer (some ⟨p, 0, none⟩), .agg #[.int .i64 (d : Int), .int .i64 (k : Int)], .int .i64 (f : Int), .int .i64 (o : Int)] W' fun e w' => e = .returned (.tuple #[]) ∧ TookC W' w' B p n (subB F o f) G) ∧ e = .returned (.tuple #[.agg #[.int .i64 (d : Int), .int .i64 (k : Int)], .bool true]) ∧ Keep (fun _ => False) W w') := fun W K => by
    refine (holder_yes (h1.keep0 K) h2 (by omega) (hb f (Nat.le_refl _) (by omega))).mono ?_
    rintro e w' ⟨k, hm, rfl, hk⟩
    have hok := (mx_over hm ho hfo).mp hb
    obtain ⟨r1, r2⟩ := mx_in hm hok hfo
    exact ⟨_, k, by omega, fun W' K' => carve_bf (Nat.le_trans hB K'.size) (HBF.out.keep0 K') hm hok hfo r1 r2 (fun x hx => Nat.lt_of_lt_of_le (HG.out x hx) K'.size), rfl, hk⟩
  clear h1 h2 h3 hw hb hfo hfn hpo hG
  go_enter Try.func19, Try.ntmps19
  go_wp2_with (first | (go_at_call 37; refine HW.out.mono ?_; rintro e w1 ⟨rfl, hk1⟩; have HK1 := Lib.hid hk1; clear hk1) | (go_at_call 31; refine (HH.out _ HK1.out).mono ?_; rintro e w2 ⟨d, k, hko, hcv, rfl, hk2⟩; have HCV := Lib.hid hcv; have HK2 := Lib.hid (HK1.out.trans hk2); clear hk2 hcv; obtain ⟨q0, q1⟩ := cell2b (heap_alloc_new w2 (.cells #[.int .i64 (d : Int), .int .i64 (k : Int)] 55))) | (go_at_call 30; refine (HCV.out _ (by (repeat (first | exact HK2.out | exact Keep.refl _ _ | refine Keep.drew ?_ | refine Keep.drewN ?_ _ | refine Keep.alloc ?_ _ | refine Keep.setNew ?_ (by omega) _)); done)).mono ?_; rintro e w3 ⟨rfl, ht3⟩; have HT3 := Lib.hid ht3; clear ht3))
  go_ret
  exact ⟨rfl, took_on HT3.out (by (repeat (first | exact HK2.out | exact Keep.refl _ _ | refine Keep.drew ?_ | refine Keep.drewN ?_ _ | refine Keep.alloc ?_ _ | refine Keep.setNew ?_ (by omega) _)); done)⟩

theorem li_mem (S : Nat → Nat → Bool) (n k : Nat) (x : Int) : x ∈ li S n k ↔ ∃ a : Nat, a < n ∧ S k a = true ∧ x = a := by
  unfold li
  rw [List.mem_map]
  constructor
  · rintro ⟨a, ha, rfl⟩
    rw [ls_mem] at ha
    exact ⟨a, ha.1, ha.2, rfl⟩
  · rintro ⟨a, h1, h2, rfl⟩
    exact ⟨a, (ls_mem S n k a).mpr ⟨h1, h2⟩, rfl⟩
theorem mx_lt {F : Nat → Bool} {n k a : Nat} (hF : ∀ i, F i = true → i < n) (h : mx F k a) : a < n := hF a (h.2.2.1 a (Nat.le_refl _) (by have := p2 k; omega))
theorem li_nil {S : Nat → Nat → Bool} {F : Nat → Bool} {n k : Nat} (hR : Rp S F) (hF : ∀ i, F i = true → i < n) (hk : k ≤ 8) (h : li S n k = []) (b : Nat) : ¬ mx F k b := fun hm => by
  have : (b : Int) ∈ li S n k := (li_mem S n k b).mpr ⟨b, mx_lt hF hm, (hR k b hk).mpr hm, rfl⟩
  rw [h] at this; cases this
theorem li_head {S : Nat → Nat → Bool} {F : Nat → Bool} {n k : Nat} (hR : Rp S F) (hF : ∀ i, F i = true → i < n) (hk : k ≤ 8) {x : Int} {T : List Int} (h : li S n k = x :: T) : ∃ a : Nat, x = a ∧ mx F k a ∧ ∀ b, b < a → ¬ mx F k b := by
  obtain ⟨a, h1, h2, rfl⟩ := (li_mem S n k x).mp (by rw [h]; exact List.mem_cons_self ..)
  refine ⟨a, rfl, (hR k a hk).mp h2, fun b hb hm => ?_⟩
  have hs := li_sorted S n k
  have hm2 : (b : Int) ∈ li S n k := (li_mem S n k b).mpr ⟨b, mx_lt hF hm, (hR k b hk).mpr hm, rfl⟩
  rw [h] at hs hm2
  rcases List.mem_cons.mp hm2 with e | hm2
  · omega
  · have := (List.pairwise_cons.mp hs).1 _ hm2
    omega

/-- What Take answers. -/
def TakeB (w : World) (B p n o : Nat) (F : Nat → Bool) (G : Nat → Prop) (e : Ending) (w' : World) : Prop :=
  (∃ k a, o ≤ k ∧ mx F k a ∧ (∀ j b, o ≤ j → j < k → ¬ mx F j b) ∧ (∀ b, b < a → ¬ mx F k b) ∧ e = .returned (.tuple #[.int .i64 (a : Nat), .int .i64 0]) ∧ TookC w w' B p n (subB F o a) G) ∨
  ((∀ j b, o ≤ j → ¬ mx F j b) ∧ e = .returned (.tuple #[.int .i64 0, .int .i64 8]) ∧ Keep (fun _ => False) w w')

set_option maxRecDepth 100000 in
set_option maxHeartbeats 2000000 in
theorem take_any {w : World} {B p n o : Nat} {F : Nat → Bool} {G : Nat → Prop} (hB : B ≤ w.heap.size) (h : BF w B p n F G) (hG : ∀ x, G x → x < w.heap.size) (ho : o ≤ 8) :
    Calls Try.prog 13 #[.pointer (some ⟨p, 0, none⟩), .int .i64 (o : Int)] w (TakeB w B p n o F G) := by
  have HBF := Lib.hid h
  have HG := Lib.hid hG
  obtain ⟨S, ⟨V, hV, hGV⟩, hR, hF⟩ := h
  have HV := Lib.hid hV
  have HR := Lib.hid (And.intro hR hF)
  have oz : (0 : Int) ≤ (o : Int) := Int.natCast_nonneg o
  have o8 : (o : Int) ≤ 8 := by omega
  clear hV hGV hR hF hG
  go_enter Try.func13, Try.ntmps13
  go_wp2
  go_step3
  go_wp2
  go_step3
  go_wp2
  go_loopw [6] (fun i wr => ∃ k : Nat, o ≤ k ∧ k ≤ 9 ∧ i = .int .i64 k ∧ (∀ j b, o ≤ j → j < k → ¬ mx F j b) ∧ Keep (fun _ => False) w wr) (fun i _ => 9 - (intOf i).toNat)
  case atStart => exact ⟨o, by omega, by omega, rfl, fun j b h1 h2 => by omega, (by (repeat (first | exact Keep.refl _ _ | exact Keep.refl _ _ | refine Keep.drew ?_ | refine Keep.drewN ?_ _ | refine Keep.alloc ?_ _ | refine Keep.setNew ?_ (by omega) _)); done)⟩
  case round =>
    obtain ⟨k, hok, hk, rfl, hno, hkeep⟩ := hrel
    have HNO := Lib.hid hno
    have HK := Lib.hid hkeep
    clear hno hkeep
    by_cases hlt : k < 9
    · have HVr := Lib.hid (HV.out.keep0 HK.out)
      have c1 := HVr.out.cV (k := k) (by omega)
      have HO := Lib.hid (HVr.out.hv k (by omega))
      obtain ⟨v, hv⟩ : ∃ v, V k = v := ⟨_, rfl⟩
      rw [hv] at c1 HO
      have kz : (0 : Int) ≤ (k : Int) := Int.natCast_nonneg k
      have k9 : (k : Int) < 9 := by omega
      have k8 : (k : Int) ≤ 8 := by omega
      clear hv
      rcases hl : li S n k with _ | ⟨x, T⟩
      · rw [hl] at HO
        obtain ⟨a, c, rfl, -⟩ := HO.out.slice
        have HN2 : Hid (∀ j b, o ≤ j → j < k + 1 → ¬ mx F j b) := fun j b h1 h2 => by
          by_cases e : j = k
          · subst e; exact li_nil HR.out.1 HR.out.2 (by omega) hl b
          · exact HNO.out j b h1 (by omega)
        clear hl
        go_wp2
        go_roundw
        case rel => exact ⟨k + 1, by omega, by omega, by go_num, HN2.out, HK.out⟩
        case measure => simp [intOf]; omega
      · obtain ⟨a, rfl, hma, hmin⟩ := li_head HR.out.1 HR.out.2 (by omega) hl
        rw [hl] at HO
        obtain ⟨g, c, rfl, -⟩ := HO.out.form (by simp)
        have d0 := in_cell HO.out (i := 0) (by simp)
        simp only [List.getElem_cons_zero] at d0
        have hao : a % 2 ^ o = 0 := mod_of_le hok hma.2.1
        have hpk := Nat.pow_le_pow_right (show 0 < 2 by decide) hok
        have HCV := Lib.hid (fun W (K : Keep (fun _ => False) wr W) => carve_bf (Nat.le_trans hB (HK.out.trans K).size) (HBF.out.keep0 (HK.out.trans K)) hma hok hao (Nat.le_refl _) (by omega) (fun x hx => Nat.lt_of_lt_of_le (HG.out x hx) (HK.out.trans K).size))
        have HM := Lib.hid (And.intro hma hmin)
        have hTl : ((T.length : Int) + 1 == 0) = false := by rw [beq_eq_false_iff_ne]; omega
        have hTl2 : (0 : Int) < (T.length : Int) + 1 := by omega
        clear hl hma hmin hao hpk
        go_wp2_with (go_at_call 30; refine (HCV.out _ (by (repeat (first | exact Keep.refl _ _ | exact Keep.refl _ _ | refine Keep.drew ?_ | refine Keep.drewN ?_ _ | refine Keep.alloc ?_ _ | refine Keep.setNew ?_ (by omega) _)); done)).mono ?_; rintro e w3 ⟨rfl, ht3⟩; have HT3 := Lib.hid ht3; clear ht3)
        go_ret2
        exact .inl ⟨k, a, hok, HM.out.1, HNO.out, HM.out.2, rfl, took_on HT3.out (by (repeat (first | exact HK.out | exact Keep.refl _ _ | refine Keep.drew ?_ | refine Keep.drewN ?_ _ | refine Keep.alloc ?_ _ | refine Keep.setNew ?_ (by omega) _)); done)⟩
    · obtain rfl : k = 9 := by omega
      go_wp2
      go_ret2
      exact .inr ⟨fun j b h1 hm => HNO.out j b h1 (by have := hm.1; omega) hm, rfl, HK.out⟩

set_option maxHeartbeats 400000 in
theorem take_arg (p : Nat) (o : Int) (ho : o < 0 ∨ 8 < o) (w : World) : Calls Try.prog 13 #[.pointer (some ⟨p, 0, none⟩), .int .i64 o] w fun e w' => e = .returned (.tuple #[.int .i64 0, .int .i64 2]) ∧ Keep (fun _ => False) w w' := by
  by_cases h0 : o < 0
  · clear ho
    go_enter Try.func13, Try.ntmps13
    go_wp2
    go_step3
    go_wp2
    rw [Exit.noGoto_ret]
    go_ret2
    exact ⟨rfl, (by (repeat (first | exact Keep.refl _ _ | exact Keep.refl _ _ | refine Keep.drew ?_ | refine Keep.drewN ?_ _ | refine Keep.alloc ?_ _ | refine Keep.setNew ?_ (by omega) _)); done)⟩
  · have h1 : 8 < o := by omega
    clear ho
    go_enter Try.func13, Try.ntmps13
    go_wp2
    go_step3
    go_wp2
    rw [Exit.noGoto_ret]
    go_ret2
    exact ⟨rfl, (by (repeat (first | exact Keep.refl _ _ | exact Keep.refl _ _ | refine Keep.drew ?_ | refine Keep.drewN ?_ _ | refine Keep.alloc ?_ _ | refine Keep.setNew ?_ (by omega) _)); done)⟩
set_option maxHeartbeats 400000 in
theorem take_nil (o : Int) (w : World) : Calls Try.prog 13 #[.pointer none, .int .i64 o] w fun e w' => e = .returned (.tuple #[.int .i64 0, .int .i64 1]) ∧ Keep (fun _ => False) w w' := by
  go_enter Try.func13, Try.ntmps13
  go_wp2
  go_step3
  go_wp2
  rw [Exit.noGoto_ret]
  go_ret2
  exact ⟨rfl, (by (repeat (first | exact Keep.refl _ _ | exact Keep.refl _ _ | refine Keep.drew ?_ | refine Keep.drewN ?_ _ | refine Keep.alloc ?_ _ | refine Keep.setNew ?_ (by omega) _)); done)⟩
set_option maxHeartbeats 400000 in
theorem takeAt_nil (f o : Int) (w : World) : Calls Try.prog 19 #[.pointer none, .int .i64 f, .int .i64 o] w fun e w' => e = .returned (.int .i64 1) ∧ Keep (fun _ => False) w w' := by
  go_enter Try.func19, Try.ntmps19
  go_wp2_with (go_at_call 37; refine (wrong_nil f o _).mono ?_; rintro e w1 ⟨rfl, hk1⟩)
  go_ret
  exact ⟨rfl, hk1⟩

end Go.Proofs.Ytcbkfilhgeeebaa
