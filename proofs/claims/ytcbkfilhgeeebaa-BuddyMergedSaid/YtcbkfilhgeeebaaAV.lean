/- Buddy: BuddyMerged, the walk. -/
import Derived.Test.YtcbkfilhgeeebaaAU
set_option linter.unusedVariables false
set_option linter.unusedSimpArgs false
namespace Go.Proofs.Ytcbkfilhgeeebaa
open Go.RowKit Go.Own

set_option maxRecDepth 100000 in
set_option maxHeartbeats 1000000 in
theorem merged_walk (n : Int) (la : Option Addr) (l c : Nat) (w : World) (hr : RowsAt w la l [.int .i64, .int .i64, .int .i64, .int .i64, .bool]) :
    Calls Try.prog 5 #[.int .i64 n, .slice la l c] w fun e w' => e = .returned (.bool true) ∧ Below w.heap.size w w' := by
  obtain ⟨A, rfl, hA⟩ := acts5_of_rows hr
  have H1 := Lib.hid hA
  clear hA hr
  go_enter Try.func5, Try.ntmps5
  go_wp2_with fail
  refine (small_any n _).mono ?_
  rintro e w1 ⟨rfl, rfl⟩
  rcases sm_is n with hb | ⟨m, hm, h8, hm4⟩
  · have HB := Lib.hid hb
    clear hb
    go_wp2_with fail
    refine (made_bad (sm n) HB.out _).mono ?_
    rintro e w2 ⟨rfl, hk2⟩
    have HK2 : Hid (Keep (fun _ => False) w1 w2) := Lib.hid hk2
    clear hk2
    go_wp2_with fail
    refine (awake_any _).mono ?_
    rintro e w3 ⟨rfl, hk3⟩
    have HK3 : Hid (Keep (fun _ => False) w1 w3) := HK2.out.trans hk3
    clear hk3
    go_wp2_with fail
    refine (awake_any _).mono ?_
    rintro e w4 ⟨rfl, hk4⟩
    have HK4 : Hid (Keep (fun _ => False) w1 w4) := Keep.trans (by (repeat (first | exact HK3.out | exact Keep.refl _ _ | refine Keep.drew ?_ | refine Keep.drewN ?_ _ | refine Keep.alloc ?_ _ | refine Keep.setNew ?_ (by omega) _)); done) hk4
    clear hk4
    go_wp2
    go_ret
    exact ⟨rfl, HK4.out.below⟩
  · rw [hm]
    clear hm
    have HM := Lib.hid (And.intro h8 hm4)
    clear h8 hm4
    go_wp2_with fail
    refine (made_any m HM.out.1 HM.out.2 _).mono ?_
    rintro e w2 ⟨q, p, x, g, rfl, hS, hk2⟩
    have HI2 : Hid (LoopI w1 w2 q p x g m 0) := LoopI.start ⟨_, hS, TkP.start m⟩ hk2
    clear hS hk2
    go_wp2_with fail
    refine (awake_any _).mono ?_
    rintro e w3 ⟨rfl, hk3⟩
    have HI3 : Hid (LoopI w1 w3 q p x g m 0) := HI2.out.keep0 hk3
    clear hk3 HI2
    go_wp2
    go_loopw [7] (fun i wr => ∃ k : Nat, k ≤ A.length ∧ k ≤ 60 ∧ i = .int .i64 (k : Int) ∧ LoopI w1 wr q p x g m k) (fun i _ => 60 - (intOf i).toNat)
    case atStart => exact ⟨0, by omega, by omega, rfl, HI3.out⟩
    case round =>
      obtain ⟨k, hkA, hk60, rfl, hI⟩ := hrel
      have HI := Lib.hid hI
      clear hI HI3
      by_cases hlt : k < A.length ∧ k < 60
      · obtain ⟨hlt, hlt3⟩ := hlt
        obtain ⟨b, o, rfl, hc⟩ := (H1.out.up (by obtain ⟨F, T, _, _, h⟩ := HI.out; exact h)) k hlt
        obtain ⟨y, hy⟩ : ∃ y, A[k]'hlt = y := ⟨_, rfl⟩
        rw [hy] at hc
        obtain ⟨c0, c1, c2, c3, c4, hf⟩ := hc
        have HF := Lib.hid hf
        have k0 : (0 : Int) ≤ k := Int.natCast_nonneg k
        have k1 : (k : Int) < A.length := Int.ofNat_lt.mpr hlt
        clear hf hy
        go_wp2_with (go_at_call 17; refine ((HI.out.keep0 (by (repeat (first | exact Keep.refl _ _ | exact Keep.refl _ _ | refine Keep.drew ?_ | refine Keep.drewN ?_ _ | refine Keep.alloc ?_ _ | refine Keep.setNew ?_ (by omega) _)); done)).do hk60 y.k y.f y.o y.n y.h HF.out).mono ?_; rintro e w5 ⟨rfl, hI5⟩; have HI5 := Lib.hid hI5; clear hI5)
        go_roundw
        case rel => exact ⟨k + 1, by omega, by omega, by go_num, HI5.out⟩
        case measure => simp [intOf]; omega
      · have hkk : k = A.length ∨ (k < A.length ∧ k = 60) := by omega
        clear hlt
        rcases hkk with hkk | ⟨hkl, hkk⟩
        all_goals
          subst hkk
          obtain ⟨F, T, ⟨v, hS, hT⟩, hl, hu⟩ := HI.out
          obtain ⟨z0, z1, z2⟩ := cells3 hS.2.1
          have HF := Lib.hid hS.1.1.fin
          have HBL := Lib.hid (blocks_any hS.1.1)
          have HU := Lib.hid hu
          clear hS hT hl hu
          go_wp2_with (go_at_call 18; refine HBL.out.mono ?_; rintro e w6 ⟨vb, D, rfl, hO, hIs, hlen, hk6⟩; have HO := Lib.hid hO; have HIS := Lib.hid hIs; have HLN := Lib.hid hlen; have HK6 := Lib.hid hk6; clear hO hIs hlen hk6; obtain ⟨a6, c6, rfl, hag⟩ := HO.out.slice)
          have hlen := HLN.out
          have HAG := Lib.hid hag
          clear z0 z1 z2 hag
          go_loopw [9, 10] (fun i _ w7 => ∃ k : Nat, 1 ≤ k ∧ (k = 1 ∨ k ≤ D.length) ∧ i = .int .i64 (k : Int) ∧ Keep (fun _ => False) w6 w7) (fun i _ _ => D.length - (intOf i).toNat)
          case atStart => exact ⟨1, by omega, .inl rfl, rfl, Keep.refl _ _⟩
          case round =>
            obtain ⟨k, hk1, hkD, rfl, hk7⟩ := hrel
            have HK7 := Lib.hid hk7
            clear hk7
            by_cases hlt : k < D.length
            · obtain ⟨j, rfl⟩ : ∃ j, k = j + 1 := ⟨k - 1, by omega⟩
              obtain ⟨g6, rfl⟩ := HAG.out (by intro e; rw [e] at hlt; simp at hlt)
              have HOw := Lib.hid (HO.out.keep HK7.out (fun _ _ => id))
              obtain ⟨c0, c1⟩ := bk_cells HOw.out (show j < D.length by omega)
              obtain ⟨d0, d1⟩ := bk_cells HOw.out hlt
              obtain ⟨xf, xo, yf, yo, P, Q, r, e1, e2, hsz, hw1, hw2, ⟨hr1, hr2, hr3, hr4⟩, htest⟩ := merged_facts HIS.out HF.out HM.out.2 hlt
              rw [e1] at c0 c1
              rw [e2] at d0 d1
              simp only at c0 c1 d0 d1
              have HSZ := Lib.hid hsz
              obtain ⟨kk, hkk⟩ : ∃ kk, j + 1 = kk := ⟨_, rfl⟩
              rw [hkk] at d0 d1 hlt ⊢
              have hki : (kk : Int) < D.length := by omega
              have hki0 : (0 : Int) ≤ kk := by omega
              have hji : (j : Int) < D.length := by omega
              have hji0 : (0 : Int) ≤ j := by omega
              have hsub : IntKind.i64.wrap ((kk : Int) - 1) = (j : Int) := (IntWalk.i64_in _ (by omega)).trans (by omega)
              have HKK := Lib.hid hkk
              clear e1 e2 hsz hkk
              rcases htest with t1 | ⟨t1, t2⟩ | ⟨t1, t2, t3⟩ | ⟨t1, t2, t3, t4⟩
              all_goals
                go_wp2_with (go_at_call 14; refine (HSZ.out _).mono ?_; rintro e w8 ⟨rfl, rfl⟩)
                go_quiet (fail)
                go_wp2
                go_roundw
                case rel => exact ⟨kk + 1, by omega, .inr (by omega), by go_num, (by (repeat (first | exact HK7.out | exact Keep.refl _ _ | refine Keep.drew ?_ | refine Keep.drewN ?_ _ | refine Keep.alloc ?_ _ | refine Keep.setNew ?_ (by omega) _)); done)⟩
                case measure => simp [intOf]; omega
            · go_wp2
              go_ret
              exact ⟨rfl, Up.below (Keep.trans HU.out (Up.of (HK6.out.trans HK7.out)))⟩

end Go.Proofs.Ytcbkfilhgeeebaa
