/- Kinds: KindsDoes, the walk. -/
import Derived.Test.YtnjcchgbkemekaaMB
set_option linter.unusedVariables false
set_option linter.unusedSimpArgs false
namespace Go.Proofs.Ytnjcchgbkemekaa
open Go.RowKit Go.Own

theorem kind_at (A : Ad) {w : World} {q : Nat} {F : Nat → Bool} {M : Nat → Int} {v : Value} {T : List Bk} (f : Int) (h : St w A q F M F M v T) (hf : f < 0 ∨ (A.n : Int) ≤ f) :
    Calls Try.prog 17 #[.pointer (some ⟨A.k, 0, none⟩), .int .i64 f] w fun e w' => e = .returned (.int .i64 (-1)) ∧ Keep (fun _ => False) w w' := by
  refine (kind_out f h.duo.ko hf).mono ?_
  rintro e w' ⟨rfl, rfl⟩
  exact ⟨rfl, Keep.refl _ _⟩

set_option maxRecDepth 100000 in
set_option maxHeartbeats 4000000 in
theorem does_walk (n : Int) (la : Option Addr) (l c : Nat) (w : World) (hr : RowsAt w la l [.int .i64, .int .i64, .int .i64, .int .i64, .int .i64]) :
    Calls Try.prog 6 #[.int .i64 n, .slice la l c] w fun e w' => e = .returned (.bool true) ∧ Below w.heap.size w w' := by
  obtain ⟨L, rfl, hA⟩ := acts5_of_rows hr
  have H1 := Lib.hid hA
  clear hA hr
  go_enter Try.func6, Try.ntmps6
  rcases sm_is n with hb | ⟨m, hm, h8, hm4⟩
  · have HB := Lib.hid hb
    clear hb
    go_wp2_with fail
    refine (kmade_bad n HB.out _).mono ?_
    rintro e w2 ⟨rfl, hk2⟩
    have HK2 : Hid (Keep (fun _ => False) w w2) := Keep.trans (by (repeat (first | exact Keep.refl _ _ | exact Keep.refl _ _ | refine Keep.drew ?_ | refine Keep.drewN ?_ _ | refine Keep.alloc ?_ _ | refine Keep.setNew ?_ (by omega) _)); done) hk2
    clear hk2
    go_wp2_with fail
    refine (awake_any _).mono ?_
    rintro e w3 ⟨rfl, hk3⟩
    have HK3 : Hid (Keep (fun _ => False) w w3) := HK2.out.trans (Keep.trans (by (repeat (first | exact Keep.refl _ _ | exact Keep.refl _ _ | refine Keep.drew ?_ | refine Keep.drewN ?_ _ | refine Keep.alloc ?_ _ | refine Keep.setNew ?_ (by omega) _)); done) hk3)
    clear hk3
    go_wp2_with fail
    refine (awake_any _).mono ?_
    rintro e w4 ⟨rfl, hk4⟩
    have HK4 : Hid (Keep (fun _ => False) w w4) := HK3.out.trans (Keep.trans (by (repeat (first | exact Keep.refl _ _ | exact Keep.refl _ _ | refine Keep.drew ?_ | refine Keep.drewN ?_ _ | refine Keep.alloc ?_ _ | refine Keep.setNew ?_ (by omega) _)); done) hk4)
    clear hk4
    go_wp2
    go_ret
    exact ⟨rfl, (Up.of HK4.out).below⟩
  · have HM := Lib.hid (And.intro h8 hm4)
    clear h8 hm4
    go_wp2_with fail
    refine (kmade_any2 n m hm HM.out.1 HM.out.2 _).mono ?_
    rintro e w2 ⟨A, q, rfl, hn, hI2, v2, hS2⟩
    have HI2 := Lib.hid hI2
    have HAN := Lib.hid hn
    have HS2 := Lib.hid hS2
    clear hI2 hn hS2 hm
    go_wp2_with fail
    refine (awake_any _).mono ?_
    rintro e w3 ⟨rfl, hk3⟩
    have HI3 := Lib.hid (HI2.out.keep0 (Keep.trans (by (repeat (first | exact Keep.refl _ _ | exact Keep.refl _ _ | refine Keep.drew ?_ | refine Keep.drewN ?_ _ | refine Keep.alloc ?_ _ | refine Keep.setNew ?_ (by omega) _)); done) hk3))
    have HS3 := Lib.hid (HS2.out.keep0 (Keep.trans (by (repeat (first | exact Keep.refl _ _ | exact Keep.refl _ _ | refine Keep.drew ?_ | refine Keep.drewN ?_ _ | refine Keep.alloc ?_ _ | refine Keep.setNew ?_ (by omega) _)); done) hk3))
    clear hk3 HI2 HS2
    go_wp2
    go_loopw [7] (fun i wr => ∃ k : Nat, k ≤ L.length ∧ k ≤ 40 ∧ i = .int .i64 (k : Int) ∧ LoopI w wr A q k) (fun i _ => 40 - (intOf i).toNat)
    case atStart => exact ⟨0, by omega, by omega, rfl, HI3.out⟩
    case round =>
      obtain ⟨k, hkA, hk40, rfl, hI⟩ := hrel
      have HI := Lib.hid hI
      clear hI HI3
      by_cases hlt : k < L.length ∧ k < 40
      · obtain ⟨hlt, hlt3⟩ := hlt
        obtain ⟨b, o, rfl, hc⟩ := (H1.out.up HI.out.up) k hlt
        obtain ⟨y, hy⟩ : ∃ y, L[k]'hlt = y := ⟨_, rfl⟩
        rw [hy] at hc
        obtain ⟨yk, yf, yo, yy, yn⟩ := y
        obtain ⟨c0, c1, c2, c3, c4, hf⟩ := hc
        have HF := Lib.hid hf
        have k0 : (0 : Int) ≤ k := Int.natCast_nonneg k
        have k1 : (k : Int) < L.length := Int.ofNat_lt.mpr hlt
        clear hf hy
        go_wp2_with (go_at_call 10; refine ((HI.out.keep0 (by (repeat (first | exact Keep.refl _ _ | exact Keep.refl _ _ | refine Keep.drew ?_ | refine Keep.drewN ?_ _ | refine Keep.alloc ?_ _ | refine Keep.setNew ?_ (by omega) _)); done)).do (by omega) yk yf yo yy yn HF.out).mono ?_; rintro e w5 ⟨rfl, hI5⟩; have HI5 := Lib.hid hI5; clear hI5)
        go_roundw
        case rel => exact ⟨k + 1, by omega, by omega, by go_num, HI5.out⟩
        case measure => simp [intOf]; omega
      · have hkk : k = L.length ∨ (k < L.length ∧ k = 40) := by omega
        clear hlt
        obtain ⟨hB, F, M, T, ⟨v, hS, hT, hM⟩, hl, hu⟩ := HI.out
        have HS := Lib.hid hS
        have HU := Lib.hid hu
        have HQ := Lib.hid (qc_of hS)
        have hn0 : (0 : Int) ≤ A.n := by omega
        clear hS hT hM hl hu hB
        obtain ⟨z0, z1, z2, z3⟩ := HQ.out
        rcases hkk with hkk | ⟨hkl, hkk⟩
        all_goals
          subst hkk
          go_wp2
          go_region_held3 (fun w' => QC q A.k A.X A.x A.g A.n w')
            (first | with_reducible exact HZ7.out | with_reducible exact HZ6.out | with_reducible exact HZ5.out | exact HQ.out)
            (first | (go_at_call 21; refine (same_any (HS.out.keep0 (by (repeat (first | exact Keep.refl _ _ | exact Keep.refl _ _ | refine Keep.drew ?_ | refine Keep.drewN ?_ _ | refine Keep.alloc ?_ _ | refine Keep.setNew ?_ (by omega) _)); done))).mono ?_; rintro e w5 ⟨rfl, hk5⟩; have HK5 : Hid (Keep (fun _ => False) wr w5) := Keep.trans (by (repeat (first | exact Keep.refl _ _ | exact Keep.refl _ _ | refine Keep.drew ?_ | refine Keep.drewN ?_ _ | refine Keep.alloc ?_ _ | refine Keep.setNew ?_ (by omega) _)); done) hk5; have HZ5 := Lib.hid (qc_keep HQ.out HK5.out); clear hk5)
                               | (go_at_call_of 17 (A.n); refine (kind_at A (A.n : Int) (HS.out.keep0 (by (repeat (first | exact HK6.out | exact Keep.refl _ _ | refine Keep.drew ?_ | refine Keep.drewN ?_ _ | refine Keep.alloc ?_ _ | refine Keep.setNew ?_ (by omega) _)); done)) (.inr (by omega))).mono ?_; rintro e w7 ⟨rfl, hk7⟩; have HK7 : Hid (Keep (fun _ => False) wr w7) := Keep.trans (by (repeat (first | exact HK6.out | exact Keep.refl _ _ | refine Keep.drew ?_ | refine Keep.drewN ?_ _ | refine Keep.alloc ?_ _ | refine Keep.setNew ?_ (by omega) _)); done) hk7; have HZ7 := Lib.hid (qc_keep HQ.out HK7.out); clear hk7)
                               | (go_at_call 17; refine (kind_at A (-1) (HS.out.keep0 (by (repeat (first | exact HK5.out | exact Keep.refl _ _ | refine Keep.drew ?_ | refine Keep.drewN ?_ _ | refine Keep.alloc ?_ _ | refine Keep.setNew ?_ (by omega) _)); done)) (.inl (by decide))).mono ?_; rintro e w6 ⟨rfl, hk6⟩; have HK6 : Hid (Keep (fun _ => False) wr w6) := Keep.trans (by (repeat (first | exact HK5.out | exact Keep.refl _ _ | refine Keep.drew ?_ | refine Keep.drewN ?_ _ | refine Keep.alloc ?_ _ | refine Keep.setNew ?_ (by omega) _)); done) hk6; have HZ6 := Lib.hid (qc_keep HQ.out HK6.out); clear hk6))
          all_goals
            go_wp2
            go_ret
            exact ⟨rfl, Up.below (Keep.trans HU.out (Up.of (by (repeat (first | exact HK7.out | exact Keep.refl _ _ | refine Keep.drew ?_ | refine Keep.drewN ?_ _ | refine Keep.alloc ?_ _ | refine Keep.setNew ?_ (by omega) _)); done)))⟩

end Go.Proofs.Ytnjcchgbkemekaa
