/- Memory: MemorySpare, the walk. -/
import Derived.Test.YtjffdimlbppgcaaGreatMW
set_option linter.unusedVariables false
set_option linter.unusedSimpArgs false
namespace Go.Proofs.YtjffdimlbppgcaaGreat
open Go.RowKit Go.Own

theorem u8_of {x : Int} (h : (Lit.int .u8 x).wf = true) : ∃ y : Nat, x = y ∧ y ≤ 255 := by
  have hb : 0 ≤ x ∧ x ≤ 255 := by simpa [Lit.wf, IntKind.min, IntKind.max, IntKind.signed, IntKind.bits] using h
  exact ⟨x.toNat, by omega, by omega⟩
/-- Behind k rounds. -/
def SpI (w0 wr : World) (A : Ad) (N : Nat → Prop) (k : Nat) : Prop := ∃ P, Mo wr A N P ∧ Lk A.n P ∧ k + spr A P ≤ 80 ∧ Up w0.heap.size w0 wr
theorem lo_facts (a i n : Nat) (ha : a < n) (hi : i < 8) (hn : n ≤ 1024) : ∃ z u u8 : Int, IntKind.i64.wrap (64 * (a : Int)) = u ∧ IntKind.i64.wrap (8 * (i : Int)) = u8 ∧ IntKind.i64.wrap (u + u8) = z ∧ z = ((8 * (8 * a + i) : Nat) : Int) :=
  ⟨_, _, _, IntWalk.i64_in _ (by omega), IntWalk.i64_in _ (by omega), (IntWalk.i64_in _ (by omega)), by omega⟩
set_option maxRecDepth 100000 in
set_option maxHeartbeats 4000000 in
theorem spare_walk (n mk : Int) (la : Option Addr) (l c : Nat) (kd : Int) (w : World) (hr : RowsAt w la l [.int .i64, .int .i64, .int .i64, .int .i64, .int .i64, .int .i64]) (hk : (Lit.int .u8 kd).wf = true) :
    Calls Tryz.prog 3 #[.agg #[.int .i64 n, .int .i64 mk, .slice la l c, .int .u8 kd]] w fun e w' => e = .returned (.bool true) ∧ Below w.heap.size w w' := by
  obtain ⟨L, rfl, hA⟩ := acts6_of_rows hr
  obtain ⟨kd, rfl, hkd⟩ := u8_of hk
  have HKD := Lib.hid hkd
  have HA0 := Lib.hid hA
  clear hA hr hk hkd
  have hbx := heap_alloc_new w (.cells #[.int .i64 n, .int .i64 mk, .slice la L.length c, .int .u8 (kd : Int)] 24)
  have b0 : (w.alloc (.cells #[.int .i64 n, .int .i64 mk, .slice la L.length c, .int .u8 (kd : Int)] 24)).cell? ⟨w.heap.size, 0, none⟩ = some (.int .i64 n) := by simp [cell_block hbx]
  have b1 : (w.alloc (.cells #[.int .i64 n, .int .i64 mk, .slice la L.length c, .int .u8 (kd : Int)] 24)).cell? ⟨w.heap.size, 1, none⟩ = some (.int .i64 mk) := by simp [cell_block hbx]
  have b2 : (w.alloc (.cells #[.int .i64 n, .int .i64 mk, .slice la L.length c, .int .u8 (kd : Int)] 24)).cell? ⟨w.heap.size, 2, none⟩ = some (.slice la L.length c) := by simp [cell_block hbx]
  have b3 : (w.alloc (.cells #[.int .i64 n, .int .i64 mk, .slice la L.length c, .int .u8 (kd : Int)] 24)).cell? ⟨w.heap.size, 3, none⟩ = some (.int .u8 (kd : Int)) := by simp [cell_block hbx]
  clear hbx
  go_enter Tryz.func3, Tryz.ntmps3
  go_wp2
  go_quiet (fail)
  generalize hw0 : World.drewN _ _ = w0
  have HK0 : Hid (Keep (fun _ => False) w w0) := by rw [← hw0]; exact (by (repeat (first | exact Keep.refl _ _ | exact Keep.refl _ _ | refine Keep.drew ?_ | refine Keep.drewN ?_ _ | refine Keep.alloc ?_ _ | refine Keep.setNew ?_ (by omega) _)); done)
  clear hw0 b0 b1 b2 b3
  have H1 := Lib.hid (HA0.out.up (Up.of HK0.out))
  clear HA0
  have hcase : ((sm n < 8 ∨ 1024 < sm n) ∨ (∃ m : Nat, sm n = m ∧ 8 ≤ m ∧ m ≤ 80 ∧ (mk < 0 ∨ (m : Int) < mk))) ∨ ∃ m k : Nat, sm n = m ∧ 8 ≤ m ∧ m ≤ 80 ∧ mk = k ∧ k ≤ m := by
    rcases sm_is n mk with h | h | h
    · exact .inl (.inl h)
    · exact .inl (.inr h)
    · exact .inr h
  rcases hcase with hb | ⟨m, mk, hs, h8, h1, rfl, hm⟩
  · have HMN : Hid (∀ W, Calls Tryz.prog 8 #[.int .i64 n, .int .i64 mk, .slice la L.length c] W fun e w' => e = .returned (.tuple #[.pointer none, .pointer none, .bool true]) ∧ Keep (fun _ => False) W w') := fun W => made_none n mk la L.length c W hb
    clear hb
    go_wp2_with fail
    refine (HMN.out _).mono ?_
    rintro e w2 ⟨rfl, hk2⟩
    have HK2 : Hid (Keep (fun _ => False) w0 w2) := Keep.trans (by (repeat (first | exact Keep.refl _ _ | exact Keep.refl _ _ | refine Keep.drew ?_ | refine Keep.drewN ?_ _ | refine Keep.alloc ?_ _ | refine Keep.setNew ?_ (by omega) _)); done) hk2
    clear hk2
    go_wp2_with fail
    refine (awake_k _).mono ?_
    rintro e w3 ⟨rfl, hk3⟩
    have HK3 : Hid (Keep (fun _ => False) w0 w3) := HK2.out.trans (Keep.trans (by (repeat (first | exact Keep.refl _ _ | exact Keep.refl _ _ | refine Keep.drew ?_ | refine Keep.drewN ?_ _ | refine Keep.alloc ?_ _ | refine Keep.setNew ?_ (by omega) _)); done) hk3)
    clear hk3
    go_wp2_with fail
    refine (awake_k _).mono ?_
    rintro e w4 ⟨rfl, hk4⟩
    have HK4 : Hid (Keep (fun _ => False) w0 w4) := HK3.out.trans (Keep.trans (by (repeat (first | exact Keep.refl _ _ | exact Keep.refl _ _ | refine Keep.drew ?_ | refine Keep.drewN ?_ _ | refine Keep.alloc ?_ _ | refine Keep.setNew ?_ (by omega) _)); done) hk4)
    clear hk4
    go_wp2
    go_ret
    exact ⟨rfl, (Up.of (HK0.out.trans HK4.out)).below⟩
  · have HMN : Hid (∀ W, Acts6 W la L → Calls Tryz.prog 8 #[.int .i64 n, .int .i64 (mk : Int), .slice la L.length c] W fun e w' => ∃ A : Ad, e = .returned (.tuple #[.pointer (some ⟨A.m, 0, none⟩), .pointer (some ⟨A.X, 0, none⟩), .bool true]) ∧ A.n = m ∧ LoopI W w' A) := fun W hA => made_any n m mk hs h8 h1 hm la L c W hA
    have HM := Lib.hid h1
    clear hs h8 h1 hm
    go_wp2_with fail
    refine (HMN.out _ H1.out).mono ?_
    rintro e w2 ⟨A, rfl, hn, hI2⟩
    have HI2 := Lib.hid hI2
    have HAN := Lib.hid hn
    clear hn hI2
    go_wp2_with fail
    refine (awake_k _).mono ?_
    rintro e w3 ⟨rfl, hk3⟩
    have HI3 : Hid (LoopI w0 w3 A) := HI2.out.keep0 (Keep.trans (by (repeat (first | exact Keep.refl _ _ | exact Keep.refl _ _ | refine Keep.drew ?_ | refine Keep.drewN ?_ _ | refine Keep.alloc ?_ _ | refine Keep.setNew ?_ (by omega) _)); done) hk3)
    clear hk3 HI2
    obtain ⟨hB, ⟨P, ⟨N, iv, hb⟩, hl, _⟩, hu⟩ := HI3.out
    have HN : Hid (A.n ≤ 80) := by unfold Hid; rw [HAN.out]; exact HM.out
    have HS3 : Hid (SpI w0 w3 A N 0) := ⟨P, hb.mo, hl, by have h1 := HN.out; have h2 := cnt_le P.F A.n; unfold spr; omega, hu⟩
    have HBB : Hid (A.B = w0.heap.size) := hB
    clear hB hb hl hu HI3
    obtain ⟨x, hx⟩ : ∃ x, kd % 3 = x := ⟨_, rfl⟩
    have e3 : (kd : Int) % 3 = (x : Int) := by omega
    have HX : Hid ((x : Int) = 0 ∨ (x : Int) = 1 ∨ (x : Int) = 2) := by unfold Hid; omega
    have hwx : IntKind.i64.wrap (x : Int) = (x : Int) := IntWalk.i64_in _ (by omega)
    clear hx
    go_wp2
    go_loopw [10] (fun i wr => ∃ k : Nat, i = .int .i64 (k : Int) ∧ SpI w0 wr A N k) (fun i _ => 100 - (intOf i).toNat)
    case atStart => exact ⟨0, rfl, HS3.out⟩
    case round =>
      obtain ⟨k, rfl, P, hm, hl, hsp, hu⟩ := hrel
      obtain ⟨s, hs⟩ : ∃ s, spr A P = s := ⟨_, rfl⟩
      rw [hs] at hsp
      have HMO := Lib.hid hm
      have HL := Lib.hid hl
      have HU := Lib.hid hu
      have HS := Lib.hid hs
      have HSP := Lib.hid hsp
      have k1 : (k : Int) < 100 := by omega
      have k2 : decide ((k : Int) < 100) = true := by simp; omega
      have k3 : decide (k < 100) = true := by simp; omega
      have e8 : IntKind.i64.wrap ((k : Int) + 1) = (k : Int) + 1 := IntWalk.i64_in _ (by omega)
      clear hm hl hs hsp hu HS3
      go_wp2_with (go_at_call 10; refine (spare_any (HMO.out.keep0 (by (repeat (first | exact Keep.refl _ _ | exact Keep.refl _ _ | refine Keep.drew ?_ | refine Keep.drewN ?_ _ | refine Keep.alloc ?_ _ | refine Keep.setNew ?_ (by omega) _)); done))).mono ?_; rw [HS.out]; rintro e w5 ⟨rfl, hk5⟩; have HK5 : Hid (Keep (fun _ => False) wr w5) := Keep.trans (by (repeat (first | exact Keep.refl _ _ | exact Keep.refl _ _ | refine Keep.drew ?_ | refine Keep.drewN ?_ _ | refine Keep.alloc ?_ _ | refine Keep.setNew ?_ (by omega) _)); done) hk5; clear hk5)
      refine (one_any (x : Int) 2 (HMO.out.keep0 (Keep.trans HK5.out (by (repeat (first | exact Keep.refl _ _ | exact Keep.refl _ _ | refine Keep.drew ?_ | refine Keep.drewN ?_ _ | refine Keep.alloc ?_ _ | refine Keep.setNew ?_ (by omega) _)); done))) HL.out).mono ?_
      rintro e w6 ⟨E, P1, rfl, hR, hm6, hk6⟩
      have HM6 := Lib.hid hm6
      have HL6 := Lib.hid (hR.lk HL.out)
      have HU6 : Hid (Up w0.heap.size w0 w6) := Keep.trans (Keep.trans HU.out (Up.of HK5.out)) (HBB.out ▸ pc_up (HMO.out.keep0 HK5.out) (pc_on (by (repeat (first | exact Keep.refl _ _ | exact Keep.refl _ _ | refine Keep.drew ?_ | refine Keep.drewN ?_ _ | refine Keep.alloc ?_ _ | refine Keep.setNew ?_ (by omega) _)); done) hk6))
      have hlaw := spare_law hR HL.out HX.out
      rw [HS.out] at hlaw
      clear hR hm6 hk6
      rcases hlaw with ⟨rfl, h0⟩ | ⟨a, rfl, ha, h1, h2, h3⟩
      · subst h0
        go_wp2
        go_ret
        exact ⟨rfl, Up.below (up_base HK0.out (Keep.trans HU6.out (by (repeat (first | exact Keep.refl _ _ | exact Keep.refl _ _ | refine Keep.drew ?_ | refine Keep.drewN ?_ _ | refine Keep.alloc ?_ _ | refine Keep.setNew ?_ (by omega) _)); done)))⟩
      · obtain ⟨s1, hs1⟩ : ∃ s1, spr A P1 = s1 := ⟨_, rfl⟩
        rw [hs1] at h1
        have HS1 := Lib.hid hs1
        have HA := Lib.hid ha
        have HW := Lib.hid h3
        have HIS : Hid (Fr.isF P1.L (a : Int) = 2) := (isF_in (by rw [HM6.out.ln]; exact ha)).trans h2
        have HSS : Hid (k + 1 + s1 ≤ 80) := by have := HSP.out; unfold Hid; omega
        have t0 : decide ((s : Int) < 1) = false := by simp; omega
        have t1 : decide (s < 1) = false := by simp; omega
        have e5 : IntKind.i64.wrap ((s : Int) - 1) = (s1 : Int) := (IntWalk.i64_in _ (by have := HSP.out; omega)).trans (by omega)
        have e5n : ((s : Int) == 0) = false := by simp; omega
        clear hs1 ha h2 h3 h1
        go_wp2_with (first | (go_at_call 10; refine (spare_any (HM6.out.keep0 (by (repeat (first | exact Keep.refl _ _ | exact Keep.refl _ _ | refine Keep.drew ?_ | refine Keep.drewN ?_ _ | refine Keep.alloc ?_ _ | refine Keep.setNew ?_ (by omega) _)); done))).mono ?_; rw [HS1.out]; rintro e w7 ⟨rfl, hk7⟩; have HK7 : Hid (Keep (fun _ => False) w6 w7) := Keep.trans (by (repeat (first | exact Keep.refl _ _ | exact Keep.refl _ _ | refine Keep.drew ?_ | refine Keep.drewN ?_ _ | refine Keep.alloc ?_ _ | refine Keep.setNew ?_ (by omega) _)); done) hk7; clear hk7) | (go_at_call 12; refine (mis_any (a : Int) (HM6.out.keep0 (Keep.trans HK7.out (by (repeat (first | exact Keep.refl _ _ | exact Keep.refl _ _ | refine Keep.drew ?_ | refine Keep.drewN ?_ _ | refine Keep.alloc ?_ _ | refine Keep.setNew ?_ (by omega) _)); done)))).mono ?_; rw [HIS.out]; rintro e w8 ⟨rfl, hk8⟩; have HK8 : Hid (Keep (fun _ => False) w6 w8) := Keep.trans (Keep.trans HK7.out (by (repeat (first | exact Keep.refl _ _ | exact Keep.refl _ _ | refine Keep.drew ?_ | refine Keep.drewN ?_ _ | refine Keep.alloc ?_ _ | refine Keep.setNew ?_ (by omega) _)); done)) hk8; clear hk8))
        go_loopw [14] (fun i wr => ∃ j : Nat, j ≤ 8 ∧ i = .int .i64 (j : Int) ∧ Keep (fun _ => False) w6 wr) (fun i _ => 8 - (intOf i).toNat)
        case atStart => exact ⟨0, by decide, rfl, by (repeat (first | exact HK8.out | exact Keep.refl _ _ | refine Keep.drew ?_ | refine Keep.drewN ?_ _ | refine Keep.alloc ?_ _ | refine Keep.setNew ?_ (by omega) _)); done⟩
        case round =>
          obtain ⟨j, hj8, rfl, hk2⟩ := hrel
          have HK2 := Lib.hid hk2
          clear hk2
          by_cases hlt : j < 8
          · have e9 : IntKind.i64.wrap ((j : Int) + 1) = (j : Int) + 1 := IntWalk.i64_in _ (by omega)
            obtain ⟨z, u, u8, f1, f2, f3, f4⟩ := lo_facts a j A.n HA.out hlt (by have := HN.out; omega)
            have HLD : Hid (∀ W, Keep (fun _ => False) w6 W → Calls Tryz.prog 14 #[.pointer (some ⟨A.r, 0, none⟩), .int .i64 z] W fun e w' => e = .returned (.tuple #[.int .u64 0, .int .i64 0]) ∧ w' = W) := fun W k => by
              have := load_ok (i := 8 * a + j) (HM6.out.keep0 k).ra (by have := HA.out; omega)
              rw [HW.out (8 * a + j) (by omega) (by omega)] at this
              rw [f4]; exact this
            clear f4
            go_wp2_with (first | (go_at_call 13; refine (mram_any (HM6.out.keep0 (Keep.trans HK2.out (by (repeat (first | exact Keep.refl _ _ | exact Keep.refl _ _ | refine Keep.drew ?_ | refine Keep.drewN ?_ _ | refine Keep.alloc ?_ _ | refine Keep.setNew ?_ (by omega) _)); done)))).mono ?_; rintro e w8 ⟨rfl, rfl⟩) | (go_at_call 14; refine (HLD.out _ (Keep.trans HK2.out (by (repeat (first | exact Keep.refl _ _ | exact Keep.refl _ _ | refine Keep.drew ?_ | refine Keep.drewN ?_ _ | refine Keep.alloc ?_ _ | refine Keep.setNew ?_ (by omega) _)); done))).mono ?_; rintro e w9 ⟨rfl, rfl⟩))
            go_roundw
            case rel => exact ⟨j + 1, by omega, by go_num, HK2.out⟩
            case measure => simp [intOf]; omega
          · obtain rfl : j = 8 := by omega
            clear hlt
            go_wp2
            go_roundw
            case rel => exact ⟨k + 1, by go_num, P1, HM6.out.keep0 HK2.out, HL6.out, by rw [HS1.out]; exact HSS.out, Keep.trans HU6.out (Up.of HK2.out)⟩
            case measure => simp [intOf]; omega

end Go.Proofs.YtjffdimlbppgcaaGreat
