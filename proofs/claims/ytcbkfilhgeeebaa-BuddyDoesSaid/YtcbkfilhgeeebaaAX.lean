/- Buddy: BuddyDoes, the walk. -/
import Derived.Test.YtcbkfilhgeeebaaAW
set_option linter.unusedVariables false
set_option linter.unusedSimpArgs false
namespace Go.Proofs.Ytcbkfilhgeeebaa
open Go.RowKit Go.Own

set_option maxRecDepth 100000 in
set_option maxHeartbeats 4000000 in
theorem does_walk (n : Int) (la : Option Addr) (l c : Nat) (w : World) (hr : RowsAt w la l [.int .i64, .int .i64, .int .i64, .int .i64, .bool]) :
    Calls Try.prog 6 #[.int .i64 n, .slice la l c] w fun e w' => e = .returned (.bool true) ∧ Below w.heap.size w w' := by
  obtain ⟨A, rfl, hA⟩ := acts5_of_rows hr
  have H1 := Lib.hid hA
  clear hA hr
  go_enter Try.func6, Try.ntmps6
  go_wp2_with fail
  refine (small_any n _).mono ?_
  rintro e w1 ⟨rfl, rfl⟩
  rcases sm_is n with hb | ⟨m, hm, h8, hm4⟩
  · have HB := Lib.hid hb
    clear hb
    go_wp2_with fail
    refine (made_bad (sm n) HB.out _).mono ?_
    rintro e w2 ⟨rfl, hk2⟩
    have HK2 : Hid (Keep (fun _ => False) w1 w2) := Keep.trans (by (repeat (first | exact Keep.refl _ _ | exact Keep.refl _ _ | refine Keep.drew ?_ | refine Keep.drewN ?_ _ | refine Keep.alloc ?_ _ | refine Keep.setNew ?_ (by omega) _)); done) hk2
    clear hk2
    go_wp2_with fail
    refine (awake_any _).mono ?_
    rintro e w3 ⟨rfl, hk3⟩
    have HK3 : Hid (Keep (fun _ => False) w1 w3) := HK2.out.trans hk3
    clear hk3
    go_wp2_with fail
    refine (awake_any _).mono ?_
    rintro e w4 ⟨rfl, hk4⟩
    have HK4 : Hid (Keep (fun _ => False) w1 w4) := Keep.trans (by (repeat (first | exact HK3.out | exact Keep.refl _ _ | refine Keep.drew ?_ | refine Keep.drewN ?_ _ | refine Keep.alloc ?_ _ | refine Keep.setNew ?_ (by omega) _)); done) hk4
    clear hk4
    go_wp2
    go_ret
    exact ⟨rfl, HK4.out.below⟩
  · rw [hm]
    clear hm
    have HM := Lib.hid (And.intro h8 hm4)
    clear h8 hm4
    go_wp2_with fail
    refine (made_any m HM.out.1 HM.out.2 _).mono ?_
    rintro e w2 ⟨q, p, x, g, rfl, hS, hk2⟩
    have HI2 : Hid (LoopI w1 w2 q p x g m 0) := LoopI.start ⟨_, hS, TkP.start m⟩ hk2
    clear hS hk2
    go_wp2_with fail
    refine (awake_any _).mono ?_
    rintro e w3 ⟨rfl, hk3⟩
    have HI3 : Hid (LoopI w1 w3 q p x g m 0) := HI2.out.keep0 hk3
    clear hk3 HI2
    go_wp2
    go_loopw [7] (fun i wr => ∃ k : Nat, k ≤ A.length ∧ k ≤ 40 ∧ i = .int .i64 (k : Int) ∧ LoopI w1 wr q p x g m k) (fun i _ => 40 - (intOf i).toNat)
    case atStart => exact ⟨0, by omega, by omega, rfl, HI3.out⟩
    case round =>
      obtain ⟨k, hkA, hk40, rfl, hI⟩ := hrel
      have HI := Lib.hid hI
      clear hI HI3
      by_cases hlt : k < A.length ∧ k < 40
      · obtain ⟨hlt, hlt3⟩ := hlt
        obtain ⟨b, o, rfl, hc⟩ := H1.out k hlt
        obtain ⟨y, hy⟩ : ∃ y, A[k]'hlt = y := ⟨_, rfl⟩
        rw [hy] at hc
        obtain ⟨yk, yf, yo, yn, yh⟩ := y
        have HC1 := Lib.hid hc
        have HBL : Hid (b < w1.heap.size) := block_lt_cell hc.1
        have HC : Hid (ActAt wr b o k ⟨yk, yf, yo, yn, yh⟩) := by obtain ⟨F, T, _, _, h⟩ := HI.out; exact HC1.out.up h HBL.out
        have HWA : Hid (WA q p x b o k yk yf yo yn yh wr) := by obtain ⟨F, T, ⟨v, hS, _⟩, _⟩ := HI.out; exact wa_of hS HC.out
        have k0 : (0 : Int) ≤ k := Int.natCast_nonneg k
        have k1 : (k : Int) < A.length := Int.ofNat_lt.mpr hlt
        clear hc hy
        obtain ⟨a0, a1, a2, a3, a4, a5, a6⟩ := HWA.out
        go_wp2
        go_region_held3 (fun w' => WA q p x b o k yk yf yo yn yh w')
          (first | with_reducible exact HA9.out | with_reducible exact HA8.out | with_reducible exact HA7.out | with_reducible exact HA6.out | with_reducible exact HA5.out | exact wa_keep HWA.out (by (repeat (first | exact Keep.refl _ _ | exact Keep.refl _ _ | refine Keep.drew ?_ | refine Keep.drewN ?_ _ | refine Keep.alloc ?_ _ | refine Keep.setNew ?_ (by omega) _)); done))
          (first | (go_at_call 17; refine ((HI.out.keep0 (by (repeat (first | exact Keep.refl _ _ | exact Keep.refl _ _ | refine Keep.drew ?_ | refine Keep.drewN ?_ _ | refine Keep.alloc ?_ _ | refine Keep.setNew ?_ (by omega) _)); done)).do (by omega) yk yf yo yn yh HC.out.2.2.2.2.2).mono ?_; rintro e w5 ⟨rfl, F, T, ⟨v, hS5, hT5⟩, hl5, hu5⟩; have HS5 := Lib.hid hS5; have HT5 := Lib.hid hT5; have HL5 := Lib.hid hl5; have HU5 := Lib.hid hu5; have HC5 : Hid (ActAt w5 b o k ⟨yk, yf, yo, yn, yh⟩) := HC1.out.up HU5.out HBL.out; have HA5 : Hid (WA q p x b o k yk yf yo yn yh w5) := wa_of HS5.out HC5.out; clear hS5 hT5 hl5 hu5)
                  | (go_at_call 23; refine (two_free (HS5.out.1.keep0 (by (repeat (first | exact Keep.refl _ _ | exact Keep.refl _ _ | refine Keep.drew ?_ | refine Keep.drewN ?_ _ | refine Keep.alloc ?_ _ | refine Keep.setNew ?_ (by omega) _)); done))).mono ?_; rintro e w6 ⟨rfl, hk6⟩; have HK6 : Hid (Keep (fun _ => False) w5 w6) := Keep.trans (by (repeat (first | exact Keep.refl _ _ | exact Keep.refl _ _ | refine Keep.drew ?_ | refine Keep.drewN ?_ _ | refine Keep.alloc ?_ _ | refine Keep.setNew ?_ (by omega) _)); done) hk6; have HA6 := Lib.hid (wa_keep HA5.out HK6.out); clear hk6)
                  | (go_at_call 24; refine (two_rfree (HS5.out.1.keep0 (by (repeat (first | exact HK6.out | exact Keep.refl _ _ | refine Keep.drew ?_ | refine Keep.drewN ?_ _ | refine Keep.alloc ?_ _ | refine Keep.setNew ?_ (by omega) _)); done))).mono ?_; rintro e w7 ⟨rfl, hk7⟩; have HK7 : Hid (Keep (fun _ => False) w5 w7) := Keep.trans (by (repeat (first | exact HK6.out | exact Keep.refl _ _ | refine Keep.drew ?_ | refine Keep.drewN ?_ _ | refine Keep.alloc ?_ _ | refine Keep.setNew ?_ (by omega) _)); done) hk7; have HA7 := Lib.hid (wa_keep HA5.out HK7.out); clear hk7)
                  | (go_at_call 25; refine (two_great (HS5.out.1.keep0 (by (repeat (first | exact HK7.out | exact Keep.refl _ _ | refine Keep.drew ?_ | refine Keep.drewN ?_ _ | refine Keep.alloc ?_ _ | refine Keep.setNew ?_ (by omega) _)); done))).mono ?_; rintro e w8 ⟨gr, hg8, rfl, hk8⟩; have HG8 := Lib.hid hg8; have HK8 : Hid (Keep (fun _ => False) w5 w8) := Keep.trans (by (repeat (first | exact HK7.out | exact Keep.refl _ _ | refine Keep.drew ?_ | refine Keep.drewN ?_ _ | refine Keep.alloc ?_ _ | refine Keep.setNew ?_ (by omega) _)); done) hk8; have HA8 := Lib.hid (wa_keep HA5.out HK8.out); clear hk8 hg8)
                  | (go_at_call 26; refine (two_rgreat (HS5.out.1.keep0 (by (repeat (first | exact HK8.out | exact Keep.refl _ _ | refine Keep.drew ?_ | refine Keep.drewN ?_ _ | refine Keep.alloc ?_ _ | refine Keep.setNew ?_ (by omega) _)); done))).mono ?_; rintro e w9 ⟨gr', hg9, rfl, hk9⟩; obtain rfl := grI_uniq HG8.out hg9; have HK9 : Hid (Keep (fun _ => False) w5 w9) := Keep.trans (by (repeat (first | exact HK8.out | exact Keep.refl _ _ | refine Keep.drew ?_ | refine Keep.drewN ?_ _ | refine Keep.alloc ?_ _ | refine Keep.setNew ?_ (by omega) _)); done) hk9; have HA9 := Lib.hid (wa_keep HA5.out HK9.out); clear hk9 hg9))
        have HI9 : Hid (LoopI w1 w9 q p x g m (k + 1)) := ⟨F, T, ⟨v, HS5.out.keep0 HK9.out, HT5.out⟩, HL5.out, Keep.trans HU5.out (Up.of HK9.out)⟩
        have HS9 := Lib.hid (HS5.out.keep0 HK9.out)
        have HXC : Hid (w9.cell? ⟨x, 0, none⟩ = some (.slice (some ⟨g, 0, none⟩) m m)) := HS9.out.1.2.1.c0
        have HFC : Hid (∀ f : Nat, f < m → w9.cell? ⟨g, f, none⟩ = some (.bool (F f))) := fun f hf => HS9.out.1.2.1.2.cell hf
        have HB9 := HA9
        clear a0 a1 a2 a3 a4 a5 a6
        obtain ⟨b0, -, -, a3, -, -, -⟩ := HB9.out
        have hcase : (yf < 0) ∨ (0 ≤ yf ∧ (m : Int) ≤ yf) ∨ ∃ i : Nat, yf = i ∧ i < m := by
          rcases Int.lt_or_le yf 0 with h | h
          · exact .inl h
          · obtain ⟨i, rfl⟩ := Int.eq_ofNat_of_zero_le h
            by_cases hi : i < m
            · exact .inr (.inr ⟨i, rfl, hi⟩)
            · exact .inr (.inl ⟨h, by omega⟩)
        rcases hcase with hf | ⟨hf0, hf⟩ | ⟨f', rfl, hf⟩
        · have t0 : decide (0 ≤ yf) = false := by simp; omega
          have HTH := Lib.hid (fun W (K : Keep (fun _ => False) w9 W) => two_out (HS9.out.1.keep0 K) (Or.inl hf))
          clear hf
          go_wp2_with (go_at_call 15; refine (HTH.out _ (by (repeat (first | exact Keep.refl _ _ | exact Keep.refl _ _ | refine Keep.drew ?_ | refine Keep.drewN ?_ _ | refine Keep.alloc ?_ _ | refine Keep.setNew ?_ (by omega) _)); done)).mono ?_; rintro e w10 ⟨rfl, hk10⟩; have HK10 := Lib.hid hk10; clear hk10)
          go_roundw
          case rel => exact ⟨k + 1, by omega, by omega, by go_num, HI9.out.keep0 (by (repeat (first | exact HK10.out | exact Keep.refl _ _ | refine Keep.drew ?_ | refine Keep.drewN ?_ _ | refine Keep.alloc ?_ _ | refine Keep.setNew ?_ (by omega) _)); done)⟩
          case measure => simp [intOf]; omega
        · have t0 : decide (0 ≤ yf) = true := by simp; omega
          have t1 : decide (yf < (m : Int)) = false := by simp; omega
          have HTH := Lib.hid (fun W (K : Keep (fun _ => False) w9 W) => two_out (HS9.out.1.keep0 K) (Or.inr hf))
          clear hf hf0
          go_wp2_with (go_at_call 15; refine (HTH.out _ (by (repeat (first | exact Keep.refl _ _ | exact Keep.refl _ _ | refine Keep.drew ?_ | refine Keep.drewN ?_ _ | refine Keep.alloc ?_ _ | refine Keep.setNew ?_ (by omega) _)); done)).mono ?_; rintro e w10 ⟨rfl, hk10⟩; have HK10 := Lib.hid hk10; have b1 := (HK10.out.cell (block_lt_cell HB9.out.2.1) id).trans HB9.out.2.1; have b2 := (HK10.out.cell (block_lt_cell HXC.out) id).trans HXC.out; clear hk10)
          go_roundw
          case rel => exact ⟨k + 1, by omega, by omega, by go_num, HI9.out.keep0 (by (repeat (first | exact HK10.out | exact Keep.refl _ _ | refine Keep.drew ?_ | refine Keep.drewN ?_ _ | refine Keep.alloc ?_ _ | refine Keep.setNew ?_ (by omega) _)); done)⟩
          case measure => simp [intOf]; omega
        · have t0 : decide (0 ≤ (f' : Int)) = true := by simp
          have t1 : decide ((f' : Int) < (m : Int)) = true := by simp; omega
          have t2 : decide (f' < m) = true := by simp; omega
          have t3 : (0 : Int) ≤ f' := by omega
          have t4 : (f' : Int) < m := by omega
          have hfc := HFC.out f' hf
          have HTH := Lib.hid (fun W (K : Keep (fun _ => False) w9 W) => two_has (HS9.out.1.keep0 K) hf)
          obtain ⟨bb, hbb⟩ : ∃ bb, F f' = bb := ⟨_, rfl⟩
          rw [hbb] at hfc HTH
          have HFC' := Lib.hid hfc
          clear hfc hbb
          go_wp2_with (go_at_call 15; refine (HTH.out _ (by (repeat (first | exact Keep.refl _ _ | exact Keep.refl _ _ | refine Keep.drew ?_ | refine Keep.drewN ?_ _ | refine Keep.alloc ?_ _ | refine Keep.setNew ?_ (by omega) _)); done)).mono ?_; rintro e w10 ⟨rfl, hk10⟩; have HK10 := Lib.hid hk10; have b1 := (HK10.out.cell (block_lt_cell HB9.out.2.1) id).trans HB9.out.2.1; have b2 := (HK10.out.cell (block_lt_cell HXC.out) id).trans HXC.out; have b3 := (HK10.out.cell (block_lt_cell HFC'.out) id).trans HFC'.out; clear hk10)
          go_roundw
          case rel => exact ⟨k + 1, by omega, by omega, by go_num, HI9.out.keep0 (by (repeat (first | exact HK10.out | exact Keep.refl _ _ | refine Keep.drew ?_ | refine Keep.drewN ?_ _ | refine Keep.alloc ?_ _ | refine Keep.setNew ?_ (by omega) _)); done)⟩
          case measure => simp [intOf]; omega
      · have hkk : k = A.length ∨ (k < A.length ∧ k = 40) := by omega
        clear hlt
        rcases hkk with hkk | ⟨hkl, hkk⟩
        all_goals
          subst hkk
          obtain ⟨F, T, ⟨v, hS, hT⟩, hl, hu⟩ := HI.out
          obtain ⟨z0, z1, z2⟩ := cells3 hS.2.1
          have HS := Lib.hid hS
          have HU := Lib.hid hu
          have HZ := Lib.hid (And.intro z0 z1)
          clear hS hT hl hu z2
          go_wp2
          go_region_held3 (fun w' => w'.cell? ⟨q, 0, none⟩ = some (.pointer (some ⟨p, 0, none⟩)) ∧ w'.cell? ⟨q, 1, none⟩ = some (.pointer (some ⟨x, 0, none⟩)))
            (first | with_reducible exact HZ7.out | with_reducible exact HZ6.out | with_reducible exact HZ5.out | exact HZ.out)
            (first | (go_at_call 18; refine (blocks_any (HS.out.keep0 (by (repeat (first | exact Keep.refl _ _ | exact Keep.refl _ _ | refine Keep.drew ?_ | refine Keep.drewN ?_ _ | refine Keep.alloc ?_ _ | refine Keep.setNew ?_ (by omega) _)); done)).1.1).mono ?_; rintro e w5 ⟨v5, D5, rfl, hO5, hI5, hl5, hk5⟩; have HO5 := Lib.hid hO5; have HI5 := Lib.hid hI5; have HL5 := Lib.hid hl5; have HK5 : Hid (Keep (fun _ => False) wr w5) := Keep.trans (by (repeat (first | exact Keep.refl _ _ | exact Keep.refl _ _ | refine Keep.drew ?_ | refine Keep.drewN ?_ _ | refine Keep.alloc ?_ _ | refine Keep.setNew ?_ (by omega) _)); done) hk5; have HZ5 : Hid (w5.cell? ⟨q, 0, none⟩ = some (.pointer (some ⟨p, 0, none⟩)) ∧ w5.cell? ⟨q, 1, none⟩ = some (.pointer (some ⟨x, 0, none⟩))) := ⟨(HK5.out.cell (block_lt_cell HZ.out.1) id).trans HZ.out.1, (HK5.out.cell (block_lt_cell HZ.out.2) id).trans HZ.out.2⟩; clear hO5 hI5 hl5 hk5)
                   | (go_at_call 27; refine (rblocks_any (HS.out.keep0 (by (repeat (first | exact HK5.out | exact Keep.refl _ _ | refine Keep.drew ?_ | refine Keep.drewN ?_ _ | refine Keep.alloc ?_ _ | refine Keep.setNew ?_ (by omega) _)); done)).1.2.1 HS.out.1.1.n1024 HS.out.1.1.fin).mono ?_; rintro e w6 ⟨v6, D6, rfl, hO6, hI6, hl6, hk6⟩; have HO6 := Lib.hid hO6; have HI6 := Lib.hid hI6; have HK56 : Hid (Keep (fun _ => False) w5 w6) := Keep.trans (by (repeat (first | exact Keep.refl _ _ | exact Keep.refl _ _ | refine Keep.drew ?_ | refine Keep.drewN ?_ _ | refine Keep.alloc ?_ _ | refine Keep.setNew ?_ (by omega) _)); done) hk6; have HK6 : Hid (Keep (fun _ => False) wr w6) := Keep.trans HK5.out HK56.out; have HZ6 : Hid (w6.cell? ⟨q, 0, none⟩ = some (.pointer (some ⟨p, 0, none⟩)) ∧ w6.cell? ⟨q, 1, none⟩ = some (.pointer (some ⟨x, 0, none⟩))) := ⟨(HK6.out.cell (block_lt_cell HZ.out.1) id).trans HZ.out.1, (HK6.out.cell (block_lt_cell HZ.out.2) id).trans HZ.out.2⟩; clear hO6 hI6 hl6 hk6)
                   | (go_at_call 21; refine (two_same HI5.out HI6.out ((HO5.out.keep HK56.out (fun _ _ => id)).keep (S := fun _ => False) (by (repeat (first | exact Keep.refl _ _ | exact Keep.refl _ _ | refine Keep.drew ?_ | refine Keep.drewN ?_ _ | refine Keep.alloc ?_ _ | refine Keep.setNew ?_ (by omega) _)); done) (fun _ _ => id)) (HO6.out.keep (S := fun _ => False) (by (repeat (first | exact Keep.refl _ _ | exact Keep.refl _ _ | refine Keep.drew ?_ | refine Keep.drewN ?_ _ | refine Keep.alloc ?_ _ | refine Keep.setNew ?_ (by omega) _)); done) (fun _ _ => id)) HL5.out).mono ?_; rintro e w7 ⟨rfl, hk7⟩; have HK7 : Hid (Keep (fun _ => False) wr w7) := Keep.trans (by (repeat (first | exact HK6.out | exact Keep.refl _ _ | refine Keep.drew ?_ | refine Keep.drewN ?_ _ | refine Keep.alloc ?_ _ | refine Keep.setNew ?_ (by omega) _)); done) hk7; have HZ7 : Hid (w7.cell? ⟨q, 0, none⟩ = some (.pointer (some ⟨p, 0, none⟩)) ∧ w7.cell? ⟨q, 1, none⟩ = some (.pointer (some ⟨x, 0, none⟩))) := ⟨(HK7.out.cell (block_lt_cell HZ.out.1) id).trans HZ.out.1, (HK7.out.cell (block_lt_cell HZ.out.2) id).trans HZ.out.2⟩; clear hk7))
          go_wp2
          go_ret
          exact ⟨rfl, Up.below (Keep.trans HU.out (Up.of (by (repeat (first | exact HK7.out | exact Keep.refl _ _ | refine Keep.drew ?_ | refine Keep.drewN ?_ _ | refine Keep.alloc ?_ _ | refine Keep.setNew ?_ (by omega) _)); done)))⟩

end Go.Proofs.Ytcbkfilhgeeebaa
