/- Memory: MemoryWhole, the walk. -/
import Derived.Test.YtjffdimlbppgcaaGreatMT
set_option linter.unusedVariables false
set_option linter.unusedSimpArgs false
namespace Go.Proofs.YtjffdimlbppgcaaGreat
open Go.RowKit Go.Own

theorem cnt_full {F : Nat → Bool} : ∀ {n : Nat}, (∀ i, i < n → F i = true) → cnt F n = n
  | 0, _ => by simp [cnt]
  | n + 1, h => by
    have e3 : cnt F (n + 1) = cnt F n + (if F n = true then 1 else 0) := by
      unfold cnt; rw [List.range_succ, List.countP_append, List.countP_singleton]
    rw [e3, cnt_full (fun i hi => h i (by omega)), if_pos (h n (by omega))]
theorem full_upTo {F : Nat → Bool} {n : Nat} (h : ∀ i, i < n → F i = true) (hf : ∀ i, F i = true → i < n) : F = upTo n := by
  funext i
  by_cases hi : i < n
  · rw [h i hi]; simp [upTo, hi]
  · cases hc : F i with
    | true => exact absurd (hf i hc) hi
    | false => simp [upTo, hi]
/-- The frames below j are free. -/
def WhI (w0 wr : World) (A : Ad) (N : Nat → Prop) (iv : Value) (P : PS) (j : Nat) : Prop := ∃ P1, Bo wr A N iv P1 P ∧ Lk A.n P1 ∧ (∀ i, i < j → P1.F i = true) ∧ Up w0.heap.size w0 wr
theorem wrE_one {n i : Nat} (h : i < n) : wrE n (i : Int) 0 = 0 := by
  have := wrE_zero (n := n) (a := i) (k := 0) (by decide) (by simp [Nat.mod_one]) (by simp; omega)
  simpa using this
theorem dr_one {A : Ad} {P P1 : PS} {i : Nat} {E : Value} (hi : i < A.n) (hF : P.F i = false) (h : DrR A P (i : Int) 0 E P1) : E = .int .i64 0 ∧ P1.F i = true ∧ ∀ j, P.F j = true → P1.F j = true := by
  rcases h with ⟨hw, _, _⟩ | ⟨hw, f', o', e1, e2, ⟨hn, _, _⟩ | ⟨hn, rfl, rfl⟩⟩
  · exact absurd (wrE_one hi) hw
  · obtain rfl : i = f' := by omega
    obtain rfl : o' = 0 := by omega
    refine absurd (fun k h1 h2 => ?_) hn
    simp at h2
    obtain rfl : k = i := by omega
    exact hF
  · obtain rfl : i = f' := by omega
    obtain rfl : o' = 0 := by omega
    refine ⟨rfl, (addB_iff _ _ _ _).mpr (.inr (by simp)), fun j hj => (addB_iff _ _ _ _).mpr (.inl hj)⟩
set_option maxRecDepth 100000 in
set_option maxHeartbeats 4000000 in
theorem whole_walk (n mk : Int) (la : Option Addr) (l c : Nat) (w : World) (hr : RowsAt w la l [.int .i64, .int .i64, .int .i64, .int .i64, .int .i64, .int .i64]) :
    Calls Tryz.prog 6 #[.int .i64 n, .int .i64 mk, .slice la l c] w fun e w' => e = .returned (.bool true) ∧ Below w.heap.size w w' := by
  obtain ⟨L, rfl, hA⟩ := acts6_of_rows hr
  have H1 := Lib.hid hA
  clear hA hr
  have hcase : ((sm n < 8 ∨ 1024 < sm n) ∨ (∃ m : Nat, sm n = m ∧ 8 ≤ m ∧ m ≤ 80 ∧ (mk < 0 ∨ (m : Int) < mk))) ∨ ∃ m k : Nat, sm n = m ∧ 8 ≤ m ∧ m ≤ 80 ∧ mk = k ∧ k ≤ m := by
    rcases sm_is n mk with h | h | h
    · exact .inl (.inl h)
    · exact .inl (.inr h)
    · exact .inr h
  rcases hcase with hb | ⟨m, k, hs, h8, h1, rfl, hm⟩
  · have HMN : Hid (∀ W, Calls Tryz.prog 8 #[.int .i64 n, .int .i64 mk, .slice la L.length c] W fun e w' => e = .returned (.tuple #[.pointer none, .pointer none, .bool true]) ∧ Keep (fun _ => False) W w') := fun W => made_none n mk la L.length c W hb
    clear hb
    go_enter Tryz.func6, Tryz.ntmps6
    go_wp2_with fail
    refine (HMN.out _).mono ?_
    rintro e w2 ⟨rfl, hk2⟩
    have HK2 : Hid (Keep (fun _ => False) w w2) := Keep.trans (by (repeat (first | exact Keep.refl _ _ | exact Keep.refl _ _ | refine Keep.drew ?_ | refine Keep.drewN ?_ _ | refine Keep.alloc ?_ _ | refine Keep.setNew ?_ (by omega) _)); done) hk2
    clear hk2
    go_wp2_with fail
    refine (awake_k _).mono ?_
    rintro e w3 ⟨rfl, hk3⟩
    have HK3 : Hid (Keep (fun _ => False) w w3) := HK2.out.trans (Keep.trans (by (repeat (first | exact Keep.refl _ _ | exact Keep.refl _ _ | refine Keep.drew ?_ | refine Keep.drewN ?_ _ | refine Keep.alloc ?_ _ | refine Keep.setNew ?_ (by omega) _)); done) hk3)
    clear hk3
    go_wp2_with fail
    refine (awake_k _).mono ?_
    rintro e w4 ⟨rfl, hk4⟩
    have HK4 : Hid (Keep (fun _ => False) w w4) := HK3.out.trans (Keep.trans (by (repeat (first | exact Keep.refl _ _ | exact Keep.refl _ _ | refine Keep.drew ?_ | refine Keep.drewN ?_ _ | refine Keep.alloc ?_ _ | refine Keep.setNew ?_ (by omega) _)); done) hk4)
    clear hk4
    go_wp2
    go_ret
    exact ⟨rfl, (Up.of HK4.out).below⟩
  · have HMN : Hid (∀ W, Acts6 W la L → Calls Tryz.prog 8 #[.int .i64 n, .int .i64 (k : Int), .slice la L.length c] W fun e w' => ∃ A : Ad, e = .returned (.tuple #[.pointer (some ⟨A.m, 0, none⟩), .pointer (some ⟨A.X, 0, none⟩), .bool true]) ∧ A.n = m ∧ LoopI W w' A) := fun W hA => made_any n m k hs h8 h1 hm la L c W hA
    clear hs h8 h1 hm
    go_enter Tryz.func6, Tryz.ntmps6
    go_wp2_with fail
    refine (HMN.out _ H1.out).mono ?_
    rintro e w2 ⟨A, rfl, hn, hI2⟩
    have HI2 := Lib.hid hI2
    have HAN := Lib.hid hn
    clear hn hI2
    go_wp2_with fail
    refine (awake_k _).mono ?_
    rintro e w3 ⟨rfl, hk3⟩
    have HI3 : Hid (LoopI w w3 A) := HI2.out.keep0 (Keep.trans (by (repeat (first | exact Keep.refl _ _ | exact Keep.refl _ _ | refine Keep.drew ?_ | refine Keep.drewN ?_ _ | refine Keep.alloc ?_ _ | refine Keep.setNew ?_ (by omega) _)); done) hk3)
    clear hk3 HI2
    obtain ⟨hB, ⟨P, ⟨N, iv, hb⟩, hl, _⟩, hu⟩ := HI3.out
    obtain ⟨g2, cap2, rfl, -, -⟩ := hb.mx.form
    have HW3 : Hid (WhI w w3 A N (.slice (some ⟨g2, 0, none⟩) A.n cap2) P 0) := ⟨P, hb, hl, fun i h => by omega, hu⟩
    have HBB : Hid (A.B = w.heap.size) := hB
    have HN : Hid (A.n ≤ 1024) := hb.mo.ra.n8.2
    have HN8 : Hid (8 ≤ A.n) := hb.mo.ra.n8.1
    clear hB hb hl hu HI3
    go_wp2
    go_loopw [10] (fun i wr => ∃ j : Nat, j ≤ A.n ∧ i = .int .i64 (j : Int) ∧ WhI w wr A N (.slice (some ⟨g2, 0, none⟩) A.n cap2) P j) (fun i _ => A.n - (intOf i).toNat)
    case atStart => exact ⟨0, Nat.zero_le _, rfl, HW3.out⟩
    case round =>
      obtain ⟨j, hj, rfl, P1, hb, hl, hfr, hu⟩ := hrel
      have HB := Lib.hid hb
      have HL := Lib.hid hl
      have HFR := Lib.hid hfr
      have HU := Lib.hid hu
      have HD := Lib.hid (dc_of hb.mx)
      obtain ⟨x0, x1, x2, x3, x4⟩ := HD.out
      clear hb hl hfr hu HW3
      by_cases hlt : j < A.n
      · have i1 : (j : Int) < A.n := by omega
        have e8 : IntKind.i64.wrap ((j : Int) + 1) = (j : Int) + 1 := IntWalk.i64_in _ (by have := HN.out; omega)
        have HJ := Lib.hid hlt
        have HIS : Hid (Fr.isF P1.L (j : Int) = gi P1.L j) := isF_in (by rw [HL.out.ln]; exact hlt)
        by_cases h0 : gi P1.L j = 0
        · have HF : Hid (P1.F j = true) := (HL.out.fr j hlt).mpr h0
          rw [h0] at HIS
          clear h0
          go_wp2_with (go_at_call 12; refine (mis_any (j : Int) (HB.out.mo.keep0 (by (repeat (first | exact Keep.refl _ _ | exact Keep.refl _ _ | refine Keep.drew ?_ | refine Keep.drewN ?_ _ | refine Keep.alloc ?_ _ | refine Keep.setNew ?_ (by omega) _)); done))).mono ?_; rw [HIS.out]; rintro e w5 ⟨rfl, hk5⟩; have HK5 : Hid (Keep (fun _ => False) wr w5) := Keep.trans (by (repeat (first | exact Keep.refl _ _ | exact Keep.refl _ _ | refine Keep.drew ?_ | refine Keep.drewN ?_ _ | refine Keep.alloc ?_ _ | refine Keep.setNew ?_ (by omega) _)); done) hk5; clear hk5)
          go_roundw
          case rel =>
            refine ⟨j + 1, HJ.out, by go_num, P1, HB.out.keep0 HK5.out, HL.out, fun i hi => ?_, Keep.trans HU.out (Up.of HK5.out)⟩
            by_cases e : i = j
            · rw [e]; exact HF.out
            · exact HFR.out i (by omega)
          case measure => simp [intOf]; omega
        · have HF : Hid (P1.F j = false) := by
            unfold Hid
            cases hc : P1.F j with
            | false => rfl
            | true => exact absurd ((HL.out.fr j hlt).mp hc) h0
          obtain ⟨s, hs⟩ : ∃ s, gi P1.L j = s := ⟨_, rfl⟩
          rw [hs] at HIS h0
          have t0 : (s == 0) = false := by simpa using h0
          have t1 : (s != 0) = true := by simpa using h0
          clear hs h0
          go_wp2_with (first | (go_at_call 12; refine (mis_any (j : Int) (HB.out.mo.keep0 (by (repeat (first | exact Keep.refl _ _ | exact Keep.refl _ _ | refine Keep.drew ?_ | refine Keep.drewN ?_ _ | refine Keep.alloc ?_ _ | refine Keep.setNew ?_ (by omega) _)); done))).mono ?_; rw [HIS.out]; rintro e w5 ⟨rfl, hk5⟩; have HK5 : Hid (Keep (fun _ => False) wr w5) := Keep.trans (by (repeat (first | exact Keep.refl _ _ | exact Keep.refl _ _ | refine Keep.drew ?_ | refine Keep.drewN ?_ _ | refine Keep.alloc ?_ _ | refine Keep.setNew ?_ (by omega) _)); done) hk5; clear hk5)
                             | (go_at_call 23; refine (mdrop_any (j : Int) 0 ((HB.out.keep0 HK5.out).mo.keep0 (by (repeat (first | exact Keep.refl _ _ | exact Keep.refl _ _ | refine Keep.drew ?_ | refine Keep.drewN ?_ _ | refine Keep.alloc ?_ _ | refine Keep.setNew ?_ (by omega) _)); done)) HL.out).mono ?_; rintro e w6 ⟨E, P2, rfl, hR, hm6, hk6⟩; have hl6 := hR.lk HL.out; obtain ⟨rfl, hF2, hall⟩ := dr_one HJ.out HF.out hR; have HBO := Lib.hid (((HB.out.keep0 HK5.out)).prog hm6 (pc_on (by (repeat (first | exact Keep.refl _ _ | exact Keep.refl _ _ | refine Keep.drew ?_ | refine Keep.drewN ?_ _ | refine Keep.alloc ?_ _ | refine Keep.setNew ?_ (by omega) _)); done) hk6)); have HL6 := Lib.hid hl6; have HF2 := Lib.hid (And.intro hF2 hall); clear hR hm6 hk6 hl6 hF2 hall))
          go_roundw
          case rel =>
            refine ⟨j + 1, HJ.out, by go_num, P2, HBO.out.1, HL6.out, fun i hi => ?_, Keep.trans HU.out (Keep.trans (Up.of HK5.out) (HBB.out ▸ km_up HBO.out.2))⟩
            by_cases e : i = j
            · rw [e]; exact HF2.out.1
            · exact HF2.out.2 i (HFR.out i (by omega))
          case measure => simp [intOf]; omega
      · obtain rfl : j = A.n := by omega
        clear hlt
        have HFU := Lib.hid (full_upTo HFR.out HL.out.fin)
        have HCN : Hid (cnt P1.F A.n = A.n) := cnt_full HFR.out
        have HCF : Hid (Fr.countF P1.L 0 = (A.n : Int)) := by
          have := countF_zero HL.out
          rw [cnt_full HFR.out] at this
          exact this
        go_wp2_with (go_at_call 24; refine (rnew_any A.n HN8.out HN.out _).mono ?_; rintro e w5 ⟨y, yg, rfl, hry, _, _, hk5⟩; have HRY := Lib.hid hry; have HK5 : Hid (Keep (fun _ => False) wr w5) := Keep.trans (by (repeat (first | exact Keep.refl _ _ | exact Keep.refl _ _ | refine Keep.drew ?_ | refine Keep.drewN ?_ _ | refine Keep.alloc ?_ _ | refine Keep.setNew ?_ (by omega) _)); done) hk5; clear hry hk5)
        have HB5 := Lib.hid (HB.out.keep0 HK5.out)
        have HD5 := Lib.hid (dc_keep HD.out HK5.out)
        clear x0 x1 x2 x3 x4
        obtain ⟨x0, x1, x2, x3, x4⟩ := HD5.out
        go_region_held3 (fun w' => DC A.X A.K A.W A.x A.wg g2 A.n cap2 w')
          (first | with_reducible exact HZ6.out | with_reducible exact HZ5.out | with_reducible exact HZ4.out | with_reducible exact HZ3.out | with_reducible exact HZ2.out | with_reducible exact HZ1.out | exact HD5.out)
          (first | (go_at_call 22; refine (mfree_any (HB5.out.mo.keep0 (by (repeat (first | exact Keep.refl _ _ | exact Keep.refl _ _ | refine Keep.drew ?_ | refine Keep.drewN ?_ _ | refine Keep.alloc ?_ _ | refine Keep.setNew ?_ (by omega) _)); done))).mono ?_; rw [HCN.out]; rintro e v1 ⟨rfl, hk⟩; have HL1 : Hid (Keep (fun _ => False) w5 v1) := Keep.trans (by (repeat (first | exact Keep.refl _ _ | exact Keep.refl _ _ | refine Keep.drew ?_ | refine Keep.drewN ?_ _ | refine Keep.alloc ?_ _ | refine Keep.setNew ?_ (by omega) _)); done) hk; have HZ1 := Lib.hid (dc_keep HD5.out HL1.out); clear hk)
                 | (go_at_call 21; refine (mcount_any 0 (HB5.out.mo.keep0 (Keep.trans HL1.out (by (repeat (first | exact Keep.refl _ _ | exact Keep.refl _ _ | refine Keep.drew ?_ | refine Keep.drewN ?_ _ | refine Keep.alloc ?_ _ | refine Keep.setNew ?_ (by omega) _)); done)))).mono ?_; rw [HCF.out]; rintro e v2 ⟨rfl, hk⟩; have HL2 : Hid (Keep (fun _ => False) w5 v2) := Keep.trans (Keep.trans HL1.out (by (repeat (first | exact Keep.refl _ _ | exact Keep.refl _ _ | refine Keep.drew ?_ | refine Keep.drewN ?_ _ | refine Keep.alloc ?_ _ | refine Keep.setNew ?_ (by omega) _)); done)) hk; have HZ2 := Lib.hid (dc_keep HD5.out HL2.out); clear hk)
                 | (go_at_call 26; refine (mblocks_any (HB5.out.mo.keep0 (Keep.trans HL2.out (by (repeat (first | exact Keep.refl _ _ | exact Keep.refl _ _ | refine Keep.drew ?_ | refine Keep.drewN ?_ _ | refine Keep.alloc ?_ _ | refine Keep.setNew ?_ (by omega) _)); done)))).mono ?_; rintro e v3 ⟨u6, D6, rfl, hI, hO, hl, hk⟩; have HI6 := Lib.hid hI; have HO6 := Lib.hid hO; have HLL6 := Lib.hid hl; have HL3 : Hid (Keep (fun _ => False) w5 v3) := Keep.trans (Keep.trans HL2.out (by (repeat (first | exact Keep.refl _ _ | exact Keep.refl _ _ | refine Keep.drew ?_ | refine Keep.drewN ?_ _ | refine Keep.alloc ?_ _ | refine Keep.setNew ?_ (by omega) _)); done)) hk; have HZ3 := Lib.hid (dc_keep HD5.out HL3.out); clear hk hI hO hl)
                 | (go_at_call 27; refine (rblocks_any (HRY.out.keep (S := fun _ => False) (Keep.trans HL3.out (by (repeat (first | exact Keep.refl _ _ | exact Keep.refl _ _ | refine Keep.drew ?_ | refine Keep.drewN ?_ _ | refine Keep.alloc ?_ _ | refine Keep.setNew ?_ (by omega) _)); done)) id id) HN.out (fun i hi => by simpa [upTo] using hi)).mono ?_; rintro e v4 ⟨u7, D7, rfl, hO, hI, hl, hk⟩; have HI7 := Lib.hid hI; have HO7 := Lib.hid hO; have HK34 : Hid (Keep (fun _ => False) v3 v4) := Keep.trans (by (repeat (first | exact Keep.refl _ _ | exact Keep.refl _ _ | refine Keep.drew ?_ | refine Keep.drewN ?_ _ | refine Keep.alloc ?_ _ | refine Keep.setNew ?_ (by omega) _)); done) hk; have HL4 : Hid (Keep (fun _ => False) w5 v4) := HL3.out.trans HK34.out; have HZ4 := Lib.hid (dc_keep HD5.out HL4.out); clear hk hI hO hl)
                 | (go_at_call 25; refine (d_same (show IsBl (upTo A.n) D6 by rw [← HFU.out]; exact HI6.out) HI7.out ((HO6.out.keep HK34.out (fun _ _ => id)).keep (S := fun _ => False) (by (repeat (first | exact Keep.refl _ _ | exact Keep.refl _ _ | refine Keep.drew ?_ | refine Keep.drewN ?_ _ | refine Keep.alloc ?_ _ | refine Keep.setNew ?_ (by omega) _)); done) (fun _ _ => id)) (HO7.out.keep (S := fun _ => False) (by (repeat (first | exact Keep.refl _ _ | exact Keep.refl _ _ | refine Keep.drew ?_ | refine Keep.drewN ?_ _ | refine Keep.alloc ?_ _ | refine Keep.setNew ?_ (by omega) _)); done) (fun _ _ => id)) HLL6.out).mono ?_; rintro e v5 ⟨rfl, hk⟩; have HL5 : Hid (Keep (fun _ => False) w5 v5) := Keep.trans (Keep.trans HL4.out (by (repeat (first | exact Keep.refl _ _ | exact Keep.refl _ _ | refine Keep.drew ?_ | refine Keep.drewN ?_ _ | refine Keep.alloc ?_ _ | refine Keep.setNew ?_ (by omega) _)); done)) hk; have HZ5 := Lib.hid (dc_keep HD5.out HL5.out); clear hk)
                 | (go_at_call 20; refine (right_any (HB5.out.mo.keep0 (Keep.trans HL5.out (by (repeat (first | exact Keep.refl _ _ | exact Keep.refl _ _ | refine Keep.drew ?_ | refine Keep.drewN ?_ _ | refine Keep.alloc ?_ _ | refine Keep.setNew ?_ (by omega) _)); done))) HL.out).mono ?_; rintro e v6 ⟨rfl, hk⟩; have HL6 : Hid (Keep (fun _ => False) w5 v6) := Keep.trans (Keep.trans HL5.out (by (repeat (first | exact Keep.refl _ _ | exact Keep.refl _ _ | refine Keep.drew ?_ | refine Keep.drewN ?_ _ | refine Keep.alloc ?_ _ | refine Keep.setNew ?_ (by omega) _)); done)) hk; have HZ6 := Lib.hid (dc_keep HD5.out HL6.out); clear hk))
        all_goals
          go_wp2
          go_ret
          exact ⟨rfl, Up.below (Keep.trans HU.out (Up.of (HK5.out.trans (Keep.trans HL6.out (by (repeat (first | exact Keep.refl _ _ | exact Keep.refl _ _ | refine Keep.drew ?_ | refine Keep.drewN ?_ _ | refine Keep.alloc ?_ _ | refine Keep.setNew ?_ (by omega) _)); done)))))⟩

end Go.Proofs.YtjffdimlbppgcaaGreat
