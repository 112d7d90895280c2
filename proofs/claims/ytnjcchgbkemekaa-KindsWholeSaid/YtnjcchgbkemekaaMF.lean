/- Kinds: KindsWhole, the walk. -/
import Derived.Test.YtnjcchgbkemekaaMB
import Derived.Deep.LoopGhost
set_option linter.unusedVariables false
set_option linter.unusedSimpArgs false
namespace Go.Proofs.Ytnjcchgbkemekaa
open Go.RowKit Go.Own

theorem cnt_upTo (a : Nat) : cnt (upTo a) a = a := by
  unfold cnt
  have : (List.range a).countP (upTo a) = (List.range a).length := by
    rw [List.countP_eq_length]
    intro i hi
    rw [List.mem_range] at hi
    simp [upTo, hi]
  rw [this, List.length_range]
/-- The state behind some calls; k more are to come, or: k took some. -/
def LoopW (w0 w4 wr : World) (A : Ad) (q k : Nat) : Prop := A.B = w0.heap.size ∧ ∃ F M T, Wd wr A q F M T ∧ T.length ≤ k ∧ Up w0.heap.size w0 wr ∧ Off q w4 wr
theorem LoopW.do {w0 w4 w : World} {A : Ad} {q k : Nat} (h : LoopW w0 w4 w A q k) (hk : k ≤ 60) (K f o y nn : Int) (hf : i64B f) :
    Calls Try.prog 10 #[.pointer (some ⟨q, 0, none⟩), .agg #[.int .i64 K, .int .i64 f, .int .i64 o, .int .i64 y, .int .i64 nn]] w fun e w' => e = .returned (.bool true) ∧ LoopW w0 w4 w' A q (k + 1) := by
  obtain ⟨hB, F, M, T, h1, h2, h3, h4⟩ := h
  refine (do_any K f o y nn hf h1 (by omega)).mono ?_
  rintro e w' ⟨rfl, F', M', T', h5, h6, h7⟩
  exact ⟨rfl, hB, F', M', T', h5, by omega, Keep.trans h3 (hB ▸ h7.up), h4.trans h7.off⟩
theorem LoopW.keep0 {w0 w4 w w' : World} {A : Ad} {q k : Nat} (h : LoopW w0 w4 w A q k) (K : Keep (fun _ => False) w w') : LoopW w0 w4 w' A q k := by
  obtain ⟨hB, F, M, T, h1, h2, h3, h4⟩ := h
  exact ⟨hB, F, M, T, h1.keep0 K, h2, Keep.trans h3 (Up.of K), h4.trans (Off.of K)⟩
theorem LoopW.up {w0 w4 w : World} {A : Ad} {q k : Nat} (h : LoopW w0 w4 w A q k) : Up w0.heap.size w0 w := by
  obtain ⟨hB, F, M, T, h1, h2, h3, h4⟩ := h
  exact h3
theorem own_off {w w' : World} {C : Nat} {v : Value} {L : List Bk} (o : OwnL bkE w C 49 v L) (h : ∀ (b : Nat) (c : Array Value), v.ownBlock = some b → w.heap[b]? = some (Obj.cells c 49 (0, 0)) → w'.heap[b]? = some (Obj.cells c 49 (0, 0))) : OwnL bkE w' C 49 v L := by
  refine ⟨o.1, ?_⟩
  rcases o.2 with hn | ⟨g, cap, cur, rfl, hb, hgg, rest⟩
  · exact .inl hn
  · exact .inr ⟨g, cap, cur, rfl, hb, h g cur rfl hgg, rest⟩
theorem half_facts (n : Nat) (h1 : 1 ≤ n) (h2 : n ≤ 60) : ∃ i : Nat, Int.tdiv (n : Int) 2 = (i : Int) ∧ (n : Int) / 2 = (i : Int) ∧ n / 2 = i ∧ wrap64 (i : Int) = (i : Int) ∧ IntKind.i64.wrap (i : Int) = (i : Int) ∧ i < n :=
  ⟨n / 2, (Int.ofNat_tdiv n 2).symm, (Int.natCast_ediv n 2).symm, rfl, IntWalk.wrap64_in _ (by omega), IntWalk.i64_in _ (by omega), by omega⟩

set_option maxRecDepth 100000 in
set_option maxHeartbeats 4000000 in
theorem whole_walk (n : Int) (la : Option Addr) (l c : Nat) (w : World) (hr : RowsAt w la l [.int .i64, .int .i64, .int .i64, .int .i64, .int .i64]) :
    Calls Try.prog 5 #[.int .i64 n, .slice la l c] w fun e w' => e = .returned (.bool true) ∧ Below w.heap.size w w' := by
  obtain ⟨L, rfl, hA⟩ := acts5_of_rows hr
  have H1 := Lib.hid hA
  clear hA hr
  go_enter Try.func5, Try.ntmps5
  rcases sm_is n with hb | ⟨m, hm, h8, hm4⟩
  · have HB := Lib.hid hb
    clear hb
    go_wp2_with fail
    refine (kmade_bad n HB.out _).mono ?_
    rintro e w2 ⟨rfl, hk2⟩
    have HK2 : Hid (Keep (fun _ => False) w w2) := Keep.trans (by (repeat (first | exact Keep.refl _ _ | exact Keep.refl _ _ | refine Keep.drew ?_ | refine Keep.drewN ?_ _ | refine Keep.alloc ?_ _ | refine Keep.setNew ?_ (by omega) _)); done) hk2
    clear hk2
    go_wp2_with fail
    refine (awake_any _).mono ?_
    rintro e w3 ⟨rfl, hk3⟩
    have HK3 : Hid (Keep (fun _ => False) w w3) := HK2.out.trans (Keep.trans (by (repeat (first | exact Keep.refl _ _ | exact Keep.refl _ _ | refine Keep.drew ?_ | refine Keep.drewN ?_ _ | refine Keep.alloc ?_ _ | refine Keep.setNew ?_ (by omega) _)); done) hk3)
    clear hk3
    go_wp2_with fail
    refine (awake_any _).mono ?_
    rintro e w4 ⟨rfl, hk4⟩
    have HK4 : Hid (Keep (fun _ => False) w w4) := HK3.out.trans (Keep.trans (by (repeat (first | exact Keep.refl _ _ | exact Keep.refl _ _ | refine Keep.drew ?_ | refine Keep.drewN ?_ _ | refine Keep.alloc ?_ _ | refine Keep.setNew ?_ (by omega) _)); done) hk4)
    clear hk4
    go_wp2
    go_ret
    exact ⟨rfl, (Up.of HK4.out).below⟩
  · have HM := Lib.hid (And.intro h8 hm4)
    clear h8 hm4
    go_wp2_with fail
    refine (kmade_any2 n m hm HM.out.1 HM.out.2 _).mono ?_
    rintro e w2 ⟨A, q, rfl, hn, hI2, v2, hS2⟩
    have HI2 := Lib.hid hI2
    have HAN := Lib.hid hn
    have HS2 := Lib.hid hS2
    clear hI2 hn hS2 hm
    go_wp2_with fail
    refine (awake_any _).mono ?_
    rintro e w3 ⟨rfl, hk3⟩
    have HI3 := Lib.hid (HI2.out.keep0 (Keep.trans (by (repeat (first | exact Keep.refl _ _ | exact Keep.refl _ _ | refine Keep.drew ?_ | refine Keep.drewN ?_ _ | refine Keep.alloc ?_ _ | refine Keep.setNew ?_ (by omega) _)); done) hk3))
    have HS3 := Lib.hid (HS2.out.keep0 (Keep.trans (by (repeat (first | exact Keep.refl _ _ | exact Keep.refl _ _ | refine Keep.drew ?_ | refine Keep.drewN ?_ _ | refine Keep.alloc ?_ _ | refine Keep.setNew ?_ (by omega) _)); done) hk3))
    clear hk3 HI2 HS2
    obtain ⟨z0, z1, -⟩ := cells3 HS3.out.hq
    go_wp2_with (go_at_call 18; refine (kblocks (HS3.out.keep0 (by (repeat (first | exact Keep.refl _ _ | exact Keep.refl _ _ | refine Keep.drew ?_ | refine Keep.drewN ?_ _ | refine Keep.alloc ?_ _ | refine Keep.setNew ?_ (by omega) _)); done)).duo.ko).mono ?_; rintro e w4 ⟨v4, D4, rfl, hO4, hI4, hl4, hk4⟩; have HO4 := Lib.hid hO4; have HI4 := Lib.hid hI4; have HL4 := Lib.hid hl4; have HK34 : Hid (Keep (fun _ => False) w3 w4) := Keep.trans (by (repeat (first | exact Keep.refl _ _ | exact Keep.refl _ _ | refine Keep.drew ?_ | refine Keep.drewN ?_ _ | refine Keep.alloc ?_ _ | refine Keep.setNew ?_ (by omega) _)); done) hk4; clear hO4 hI4 hl4 hk4 z0 z1)
    have HS4 := Lib.hid (HS3.out.keep0 HK34.out)
    have HIL : Hid (LoopW w w4 w4 A q 0) := by
      obtain ⟨hB, F, M, T, h1, h2, h3⟩ := HI3.out.keep0 HK34.out
      exact ⟨hB, F, M, T, h1, h2, h3, Off.of (Keep.refl _ _)⟩
    have HNO : Hid (∀ W, Off q w4 W → OwnL bkE W w3.heap.size 49 v4 D4) := fun W h => by
      obtain ⟨v', _, h2⟩ := h _ ⟨_, _, HS4.out.hq⟩
      refine own_off HO4.out fun b c hv hb => (h2 b c hb ?_).1
      intro e
      have h3 := (HS3.out.own.lt b e).2
      have h4 := (HO4.out.lt b hv).1
      omega
    obtain ⟨a4, c4, rfl, -⟩ := HO4.out.slice
    clear HO4 HK34 HS3 HI3
    go_loopw [8] (fun i wr => ∃ k : Nat, k ≤ L.length ∧ k ≤ 60 ∧ i = .int .i64 (k : Int) ∧ LoopW w w4 wr A q k) (fun i _ => 60 - (intOf i).toNat)
    case atStart => exact ⟨0, by omega, by omega, rfl, HIL.out⟩
    case round =>
      obtain ⟨k, hkA, hk60, rfl, hI⟩ := hrel
      have HI := Lib.hid hI
      clear hI HIL
      by_cases hlt : k < L.length ∧ k < 60
      · obtain ⟨hlt, hlt3⟩ := hlt
        obtain ⟨b, o, rfl, hc⟩ := (H1.out.up HI.out.up) k hlt
        obtain ⟨y, hy⟩ : ∃ y, L[k]'hlt = y := ⟨_, rfl⟩
        rw [hy] at hc
        obtain ⟨yk, yf, yo, yy, yn⟩ := y
        obtain ⟨c0, c1, c2, c3, c4, hf⟩ := hc
        have HF := Lib.hid hf
        have k0 : (0 : Int) ≤ k := Int.natCast_nonneg k
        have k1 : (k : Int) < L.length := Int.ofNat_lt.mpr hlt
        clear hf hy
        go_wp2_with (go_at_call 10; refine ((HI.out.keep0 (by (repeat (first | exact Keep.refl _ _ | exact Keep.refl _ _ | refine Keep.drew ?_ | refine Keep.drewN ?_ _ | refine Keep.alloc ?_ _ | refine Keep.setNew ?_ (by omega) _)); done)).do (by omega) yk yf yo yy yn HF.out).mono ?_; rintro e w5 ⟨rfl, hI5⟩; have HI5 := Lib.hid hI5; clear hI5)
        go_roundw
        case rel => exact ⟨k + 1, by omega, by omega, by go_num, HI5.out⟩
        case measure => simp [intOf]; omega
      · have hkk : k = L.length ∨ (k < L.length ∧ k = 60) := by omega
        clear hlt
        have HI60 : Hid (LoopW w w4 wr A q 60) := by
          obtain ⟨hB, F, M, T, h1, h2, h3⟩ := HI.out
          exact ⟨hB, F, M, T, h1, by omega, h3⟩
        clear HI
        rcases hkk with hkk | ⟨hkl, hkk⟩
        all_goals
          subst hkk
          go_wp2
          go_loopg [] 60 (fun k w5 => k ≤ 60 ∧ LoopW w w4 w5 A q k)
          case atStart => exact ⟨Nat.le_refl _, HI60.out⟩
          case round =>
            obtain ⟨hk, hB, F, M, T, ⟨v, hS, hT, hM⟩, hl, hu, hoff⟩ := hrel
            have HS := Lib.hid hS
            have HT := Lib.hid hT
            have HM := Lib.hid hM
            have HU := Lib.hid hu
            have HOFF := Lib.hid hoff
            have HB := Lib.hid hB
            have HQ := Lib.hid (qc_of hS)
            obtain ⟨av, cv, rfl, -⟩ := hS.own.slice
            obtain ⟨-, -, z2'⟩ := cells3 hS.hq
            obtain ⟨z0, z1, z3, z4⟩ := HQ.out
            have HL := Lib.hid (And.intro hl hk)
            clear hS hT hM hu hoff hB
            by_cases hT0 : T.length = 0
            · obtain rfl : T = [] := List.eq_nil_of_length_eq_zero hT0
              have hF := HT.out.full HS.out.duo.ko.bf.fin
              subst hF
              have HO5 : Hid (OwnL bkE wr w3.heap.size 49 (.slice a4 D4.length c4) D4) := HNO.out _ HOFF.out
              have HCU := Lib.hid (cnt_upTo A.n)
              clear hT0 hl hk
              go_wp2
              go_region_held3 (fun w' => QC q A.k A.X A.x A.g A.n w')
                (first | with_reducible exact HZ8.out | with_reducible exact HZ7.out | with_reducible exact HZ6.out | exact HQ.out)
                (first | (go_at_call 18; refine (kblocks (HS.out.keep0 (by (repeat (first | exact Keep.refl _ _ | exact Keep.refl _ _ | refine Keep.drew ?_ | refine Keep.drewN ?_ _ | refine Keep.alloc ?_ _ | refine Keep.setNew ?_ (by omega) _)); done)).duo.ko).mono ?_; rintro e w6 ⟨v6, D6, rfl, hO6, hI6, hl6, hk6⟩; have HO6 := Lib.hid hO6; have HI6 := Lib.hid hI6; have HK56 : Hid (Keep (fun _ => False) wr w6) := Keep.trans (by (repeat (first | exact Keep.refl _ _ | exact Keep.refl _ _ | refine Keep.drew ?_ | refine Keep.drewN ?_ _ | refine Keep.alloc ?_ _ | refine Keep.setNew ?_ (by omega) _)); done) hk6; have HZ6 := Lib.hid (qc_keep HQ.out HK56.out); clear hO6 hI6 hl6 hk6)
                       | (go_at_call 19; refine (d_same (show IsBl (upTo A.n) D4 by rw [HAN.out]; exact HI4.out) HI6.out ((HO5.out.keep HK56.out (fun _ _ => id)).keep (S := fun _ => False) (by (repeat (first | exact Keep.refl _ _ | exact Keep.refl _ _ | refine Keep.drew ?_ | refine Keep.drewN ?_ _ | refine Keep.alloc ?_ _ | refine Keep.setNew ?_ (by omega) _)); done) (fun _ _ => id)) (HO6.out.keep (S := fun _ => False) (by (repeat (first | exact Keep.refl _ _ | exact Keep.refl _ _ | refine Keep.drew ?_ | refine Keep.drewN ?_ _ | refine Keep.alloc ?_ _ | refine Keep.setNew ?_ (by omega) _)); done) (fun _ _ => id)) HL4.out).mono ?_; rintro e w7 ⟨rfl, hk7⟩; have HK7 : Hid (Keep (fun _ => False) wr w7) := Keep.trans (Keep.trans HK56.out (by (repeat (first | exact Keep.refl _ _ | exact Keep.refl _ _ | refine Keep.drew ?_ | refine Keep.drewN ?_ _ | refine Keep.alloc ?_ _ | refine Keep.setNew ?_ (by omega) _)); done)) hk7; have HZ7 := Lib.hid (qc_keep HQ.out HK7.out); clear hk7)
                       | (go_at_call 20; refine (d_free (HS.out.keep0 (by (repeat (first | exact HK7.out | exact Keep.refl _ _ | refine Keep.drew ?_ | refine Keep.drewN ?_ _ | refine Keep.alloc ?_ _ | refine Keep.setNew ?_ (by omega) _)); done)).duo).mono ?_; rw [HCU.out]; rintro e w8 ⟨rfl, hk8⟩; have HK8 : Hid (Keep (fun _ => False) wr w8) := Keep.trans (by (repeat (first | exact HK7.out | exact Keep.refl _ _ | refine Keep.drew ?_ | refine Keep.drewN ?_ _ | refine Keep.alloc ?_ _ | refine Keep.setNew ?_ (by omega) _)); done) hk8; have HZ8 := Lib.hid (qc_keep HQ.out HK8.out); clear hk8))
              all_goals
                go_wp2
                go_ret
                exact ⟨rfl, Up.below (Keep.trans HU.out (Up.of (by (repeat (first | exact HK8.out | exact Keep.refl _ _ | refine Keep.drew ?_ | refine Keep.drewN ?_ _ | refine Keep.alloc ?_ _ | refine Keep.setNew ?_ (by omega) _)); done)))⟩
            · obtain ⟨i, e1, e2, e3, e4, e5, hi⟩ := half_facts T.length (by omega) (by omega)
              have t0 : decide ((0 : Int) < (T.length : Int)) = true := by simp; omega
              have t1 : decide (0 < T.length) = true := by simp; omega
              have HI := Lib.hid hi
              clear hT0 hl hk hi
              go_wp2_with (go_at_call 10; refine (do_give 0 0 0 (i : Int) ⟨_, HS.out.keep0 (by (repeat (first | exact Keep.refl _ _ | exact Keep.refl _ _ | refine Keep.drew ?_ | refine Keep.drewN ?_ _ | refine Keep.alloc ?_ _ | refine Keep.setNew ?_ (by omega) _)); done), HT.out, HM.out⟩ (by have := HL.out; omega)).mono ?_; rintro e w6 ⟨rfl, F', T', hw6, hu6, hc6⟩; have HW6 := Lib.hid hw6; have HU6 := Lib.hid hu6; have HC6 := Lib.hid hc6; clear hw6 hu6 hc6)
              go_roundg T'.length
              case measure =>
                have hi := HI.out
                have hl := HL.out.1
                rcases HC6.out with ⟨h, _⟩ | ⟨j, h1, h2, rfl⟩
                · omega
                · have := rmT_len h2; omega
              case rel =>
                have hi := HI.out
                have hl := HL.out
                have hle : T'.length ≤ 60 := by
                  rcases HC6.out with ⟨h, _⟩ | ⟨j, h1, h2, rfl⟩
                  · omega
                  · have := rmT_len h2; omega
                exact ⟨hle, HB.out, F', M, T', HW6.out, Nat.le_refl _, Keep.trans HU.out (HB.out ▸ HU6.out.up), HOFF.out.trans HU6.out.off⟩

end Go.Proofs.Ytnjcchgbkemekaa
