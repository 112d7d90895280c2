/- Buddy: BuddyApart, the walk. -/
import Derived.Test.YtcbkfilhgeeebaaW
import Derived.Test.YtcbkfilhgeeebaaArgs
import Derived.ProofKit
set_option linter.unusedVariables false
set_option linter.unusedSimpArgs false
namespace Go.Proofs.Ytcbkfilhgeeebaa
open Go.RowKit Go.Own

/-- The orders as they came in. -/
theorem bytes_of_rows {w : World} {la : Option Addr} {l : Nat} (h : RowsAt w la l [.int .u8]) : ∀ i, i < l → ∃ b o x, la = some ⟨b, o, none⟩ ∧ x ≤ 255 ∧ w.cell? ⟨b, o + i, none⟩ = some (.int .u8 ((x : Nat) : Int)) := by
  intro i hi
  obtain ⟨b, o, cs, ha, hf, hc⟩ := h i hi
  have hl := hf.length
  obtain ⟨c0, rfl⟩ : ∃ c0, cs = [c0] := by
    rcases cs with _ | ⟨c0, _ | ⟨c1, cs⟩⟩ <;> simp at hl
    exact ⟨c0, rfl⟩
  obtain ⟨⟨x0, rfl, hw⟩, _⟩ := hf
  have h0 := hc 0 (by decide)
  simp only [List.length_cons, List.length_nil, Nat.add_zero, Nat.zero_add, Nat.mul_one, List.getElem?_cons_zero] at h0
  have hb : 0 ≤ x0 ∧ x0 ≤ 255 := by simpa [Lit.wf, IntKind.min, IntKind.max, IntKind.signed, IntKind.bits] using hw
  exact ⟨b, o, x0.toNat, ha, by omega, by rw [show ((x0.toNat : Nat) : Int) = x0 by omega]; exact h0⟩

theorem rem_run4 (f z : Nat) (h : f % z = 0) (hf : f < 5000) (h1 : 1 ≤ z) (hz : z < 1000) (W : World) : Sem.run Try.prog (binOp .rem 3 (.int .i64 (f:Int)) (.int .i64 (z:Int))) W = Result.ok (.int .i64 0) W := by
  have a7 : ¬ ((z : Int) = 0) := by omega
  have a8 : ¬ (z = 0) := by omega
  have a4 : Int.tmod (f : Int) (z : Int) = 0 := by
    rw [Int.tmod_eq_emod_of_nonneg (by omega), ← Int.natCast_emod, h]; rfl
  go_simp

set_option maxRecDepth 100000 in
set_option maxHeartbeats 1000000 in
theorem apart_walk (n : Int) (la : Option Addr) (l c : Nat) (w : World) (hr : RowsAt w la l [.int .u8]) :
    Calls Try.prog 3 #[.int .i64 n, .slice la l c] w fun e w' => e = .returned (.bool true) ∧ Below w.heap.size w w' := by
  have H1 := Lib.hid (bytes_of_rows hr)
  clear hr
  go_enter Try.func3, Try.ntmps3
  go_wp2_with fail
  refine (small_any n _).mono ?_
  rintro e w1 ⟨rfl, rfl⟩
  rcases sm_is n with hb | ⟨m, hm, h8, hm4⟩
  · go_wp2_with fail
    refine (new_bad (sm n) hb _).mono ?_
    rintro e w2 ⟨rfl, hk2⟩
    have HK2 : Hid (Keep (fun _ => False) w1 w2) := Lib.hid hk2
    clear hk2
    go_wp2_with fail
    refine (awake_any _).mono ?_
    rintro e w3 ⟨rfl, hk3⟩
    have HK3 : Hid (Keep (fun _ => False) w1 w3) := HK2.out.trans hk3
    clear hk3
    go_wp2_with fail
    refine (awake_any _).mono ?_
    rintro e w4 ⟨rfl, hk4⟩
    have HK4 : Hid (Keep (fun _ => False) w1 w4) := Keep.trans (by (repeat (first | exact HK3.out | exact Keep.refl _ _ | refine Keep.drew ?_ | refine Keep.drewN ?_ _ | refine Keep.alloc ?_ _ | refine Keep.setNew ?_ (by omega) _)); done) hk4
    clear hk4
    go_wp2
    go_ret
    exact ⟨rfl, HK4.out.below⟩
  · obtain ⟨R, hR⟩ : ∃ R, Array.replicate 1024 (Value.bool false) = R := ⟨_, rfl⟩
    have HR := Lib.hid hR.symm
    have hmk := fun W => make29 R hR W
    clear hR
    have HS : Hid (∀ W, Calls Try.prog 11 #[.int .i64 n] W fun e w' => e = .returned (.int .i64 (m : Int)) ∧ w' = W) := fun W => by rw [← hm]; exact small_any n W
    rw [hm]
    clear hm
    go_wp2_with fail
    refine (new_any m w1.heap.size h8 hm4 _ (Nat.le_refl _)).mono ?_
    rintro e w2 ⟨p, rfl, hbf, hp, hk2⟩
    have HB2 := Lib.hid hbf
    have HK2 := Lib.hid hk2
    have HP := Lib.hid hp
    have HM := Lib.hid (And.intro h8 hm4)
    clear hbf hp hk2 h8 hm4
    go_wp2_with fail
    refine (awake_any _).mono ?_
    rintro e w3 ⟨rfl, hk3⟩
    have HK3 := Lib.hid hk3
    clear hk3
    go_wp2_with fail
    refine (HS.out _).mono ?_
    rintro e w4 ⟨rfl, hw4⟩
    have HI0 : Hid (ApI w1 w4 p m w3.heap.size (upTo m) (fun _ => false)) := by
      rw [hw4]
      exact ApI.start HB2.out HP.out (by obtain ⟨S, ⟨V, h1, _⟩, _⟩ := HB2.out; exact block_lt h1.hp) HK2.out HK3.out HR.out
    clear hw4 HK3 HK2 HB2 HR hmk HS HP
    obtain ⟨q, hq⟩ : ∃ q, w3.heap.size = q := ⟨_, rfl⟩
    rw [hq] at HI0
    rw [hq]
    clear hq
    go_wp2
    go_loopw [9] (fun i wr => ∃ k F M, k ≤ l ∧ k ≤ 300 ∧ i = .int .i64 ((k : Nat) : Int) ∧ ApI w1 wr p m q F M) (fun i _ => 300 - (intOf i).toNat)
    case atStart => exact ⟨0, _, _, by omega, by omega, rfl, HI0.out⟩
    case round =>
      obtain ⟨k, F, M, hkl, hk3, rfl, hI⟩ := hrel
      have HI := Lib.hid hI
      clear hI HI0
      by_cases hlt : k < l ∧ k < 300
      · obtain ⟨hlt, hlt3⟩ := hlt
        obtain ⟨b, o, x, rfl, hx, hc⟩ := H1.out k hlt
        have hc2 : wr.cell? ⟨b, o + k, none⟩ = some (.int .u8 (x : Int)) := (HI.out.2.2.2.2.2.2.cell (block_lt_cell hc) id).trans hc
        obtain ⟨t, ht⟩ : ∃ t, x % 9 = t := ⟨_, rfl⟩
        have ht8 : t ≤ 8 := by omega
        have e9 : (x : Int) % 9 = (t : Int) := by omega
        have HX := Lib.hid hx
        have HT := Lib.hid ht8
        clear hc hx ht
        have hwt : IntKind.i64.wrap (t : Int) = (t : Int) := IntWalk.i64_in _ (by omega)
        have k0 : (0 : Int) ≤ k := Int.natCast_nonneg k
        have k1 : (k : Int) < l := Int.ofNat_lt.mpr hlt
        have HC : Hid (∀ W, Keep (fun _ => False) wr W → Calls Try.prog 13 #[.pointer (some ⟨p, 0, none⟩), .int .i64 (t : Int)] W _) := Lib.hid (fun W (K : Keep (fun _ => False) wr W) => ap_take (HI.out.keep0 K) HT.out)
        clear ht8
        go_wp2_with fail
        try rw [e9]
        refine (HC.out _ (by (repeat (first | exact Keep.refl _ _ | exact Keep.refl _ _ | refine Keep.drew ?_ | refine Keep.drewN ?_ _ | refine Keep.alloc ?_ _ | refine Keep.setNew ?_ (by omega) _)); done)).mono ?_
        clear HC
        rintro e w5 (⟨a, ha1, ha2, rfl, hI5, hfree⟩ | ⟨rfl, hI5⟩)
        · have HI5 := Lib.hid hI5
          have HF5 := Lib.hid hfree
          obtain ⟨P, hP⟩ : ∃ P, 2 ^ t = P := ⟨_, rfl⟩
          have hsz : ∀ W, Calls Try.prog 14 #[.int .i64 (t : Int)] W fun e w' => e = .returned (.int .i64 (P : Int)) ∧ w' = W := fun W => by
            rw [← hP, show ((2 ^ t : Nat) : Int) = (2 : Int) ^ t by simp]; exact size_any t HT.out W
          have HSZ := Lib.hid hsz
          have hP1 : 1 ≤ P ∧ P ≤ 256 := by
            rw [← hP]
            exact ⟨p2 t, by have := Nat.pow_le_pow_right (n := 2) (by decide) HT.out; omega⟩
          rw [hP] at ha1 ha2 HF5
          have HPT := Lib.hid hP
          have hm8 := HM.out
          clear hI5 hfree hsz hP
          have hrm2 := rem_run4 a P ha1 (by omega) hP1.1 (by omega)
          obtain ⟨r, hr⟩ : ∃ r, m - a = r := ⟨_, rfl⟩
          have hsub : IntKind.i64.wrap ((m : Int) - (a : Int)) = (r : Int) := by rw [← hr]; exact nsub m a (by omega) (by omega)
          have a0 : (0 : Int) ≤ a := Int.natCast_nonneg a
          have r1 : P ≤ r := by omega
          have r2 : ¬ r < P := by omega
          have r3 : (P : Int) ≤ (r : Int) := by omega
          have HA : Hid (a + P ≤ m) := ha2
          have HPP := Lib.hid hP1
          have z1 : ¬ ((P : Int) = 0) := by omega
          have z2 : ¬ (P = 0) := by omega
          have z5 : (a : Int) % (P : Int) = 0 := by rw [← Int.natCast_emod, ha1]; rfl
          have z4 : ((a : Int) % (P : Int) != 0) = false := by rw [z5]; rfl
          clear hr ha2 hP1 hm8
          go_wp2_with (first | (go_at_call 14; exact Calls.quiet_of_same (HSZ.out _)) | (go_at_call 14; refine (HSZ.out _).mono ?_; rintro e w6 ⟨rfl, rfl⟩))
          go_loopw [13] (fun i w6 => ∃ j M', j ≤ P ∧ i = .int .i64 ((j : Nat) : Int) ∧ ApI w1 w6 p m q (subB F t a) M' ∧ ∀ z, a + j ≤ z → z < a + P → M' z = false) (fun i _ => P - (intOf i).toNat)
          case atStart => exact ⟨0, M, by omega, rfl, HI5.out, fun z e1 e2 => HF5.out z e1 e2⟩
          case round =>
            obtain ⟨j, M', hj, rfl, hI6, hf6⟩ := hrel
            have HI6 := Lib.hid hI6
            have HF6 := Lib.hid hf6
            clear hI6 hf6 HI5 HF5 HI
            by_cases hjP : j < P
            · obtain ⟨v, hv⟩ : ∃ v, a + j = v := ⟨_, rfl⟩
              have hm8 := HM.out
              have ha2 := HA.out
              have hvm : v < m := by omega
              have hv4 : v < 1024 := by omega
              have hwv : IntKind.i64.wrap ((a : Int) + (j : Int)) = (v : Int) := by rw [← hv]; exact IntWalk.i64_in _ (by omega)
              have v0 : (0 : Int) ≤ v := Int.natCast_nonneg v
              have v1 : (v : Int) < 1024 := by omega
              have j1 : (j : Int) < (P : Int) := by omega
              have hPP := HPP.out
              have j2 : (j : Int) < 256 := by omega
              have j3 : j < 256 := by omega
              have hMv : M' v = false := HF6.out v (by omega) (by omega)
              have HSV : Hid (subB F t a v = false) := by
                unfold Hid
                have := HPT.out
                rw [← Bool.not_eq_true, subB_iff]
                exact fun h => h.2 ⟨by omega, by omega⟩
              have cm : wr.cell? ⟨q, v, none⟩ = some (.bool false) := by rw [HI6.out.2.1.cell hv4, hMv]
              have HVM := Lib.hid hvm
              have HV4 := Lib.hid hv4
              have HVV := Lib.hid hv
              clear hMv hm8 ha2 hvm hv hPP
              go_wp2_with (first | (go_at_call 14; refine (HSZ.out _).mono ?_; rintro e w6 ⟨rfl, rfl⟩) | fail)
              refine (ap_has (HI6.out.keep0 (by (repeat (first | exact Keep.refl _ _ | exact Keep.refl _ _ | refine Keep.drew ?_ | refine Keep.drewN ?_ _ | refine Keep.alloc ?_ _ | refine Keep.setNew ?_ (by omega) _)); done)) HVM.out HSV.out).mono ?_
              rintro e w7 ⟨rfl, hk7⟩
              have HI7 : Hid (ApI w1 w7 p m q (subB F t a) M') := HI6.out.keep0 (Keep.trans (by (repeat (first | exact Keep.refl _ _ | exact Keep.refl _ _ | refine Keep.drew ?_ | refine Keep.drewN ?_ _ | refine Keep.alloc ?_ _ | refine Keep.setNew ?_ (by omega) _)); done) hk7)
              clear hk7 cm
              have cm7 := HI7.out.2.1.cell HV4.out
              have fr7 := HI7.out.2.1.frozen v
              go_wp2
              go_roundw
              case rel => exact ⟨j + 1, _, by omega, by go_num, ap_set HI7.out HV4.out HSV.out, fun z e1 e2 => by
                have := HVV.out
                rw [HF6.out z (by omega) e2]; simp; omega⟩
              case measure => simp [intOf]; omega
            · have j1 : ¬ (j : Int) < (P : Int) := by omega
              go_wp2_with (go_at_call 14; refine (HSZ.out _).mono ?_; rintro e w6 ⟨rfl, rfl⟩)
              go_roundw
              case rel => exact ⟨k + 1, _, M', hlt, hlt3, by go_num, HI6.out⟩
              case measure => simp [intOf]; omega
        · have HI5 := Lib.hid hI5
          clear hI5
          go_wp2
          go_roundw
          case rel => exact ⟨k + 1, F, M, hlt, hlt3, by go_num, HI5.out⟩
          case measure => simp [intOf]; omega
      · have HI2 := HI
        by_cases h1 : k < l
        · have h2 : ¬ k < 300 := fun h => hlt ⟨h1, h⟩
          have k1 : (k : Int) < l := Int.ofNat_lt.mpr h1
          have k2 : ¬ (k : Int) < 300 := by omega
          clear hlt
          go_wp2
          go_ret
          exact ⟨rfl, HI2.out.2.2.2.2.2.2.below⟩
        · have k1 : ¬ (k : Int) < l := by omega
          clear hlt
          go_wp2
          go_ret
          exact ⟨rfl, HI2.out.2.2.2.2.2.2.below⟩

end Go.Proofs.Ytcbkfilhgeeebaa
