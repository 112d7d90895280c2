/- Buddy: BuddyFinds, the walk. -/
import Derived.Test.YtcbkfilhgeeebaaAW
set_option linter.unusedVariables false
set_option linter.unusedSimpArgs false
namespace Go.Proofs.Ytcbkfilhgeeebaa
open Go.RowKit Go.Own

/-- An even block of order k that is free as a whole, among the first j. -/
def There (F : Nat → Bool) (k j : Nat) : Prop := ∃ i, i < j ∧ blk F k (i * 2 ^ k)
theorem there_zero (F : Nat → Bool) (k : Nat) : ¬ There F k 0 := by rintro ⟨i, h, _⟩; omega
theorem there_succ (F : Nat → Bool) (k j : Nat) : There F k (j + 1) ↔ There F k j ∨ blk F k (j * 2 ^ k) := by
  constructor
  · rintro ⟨i, h, hb⟩
    by_cases e : i = j
    · subst e; exact .inr hb
    · exact .inl ⟨i, by omega, hb⟩
  · rintro (⟨i, h, hb⟩ | hb)
    · exact ⟨i, by omega, hb⟩
    · exact ⟨j, by omega, hb⟩
theorem there_mx {F : Nat → Bool} {k j : Nat} (hk : k ≤ 8) (h : There F k j) : ∃ q b, k ≤ q ∧ mx F q b := by
  obtain ⟨i, _, hb⟩ := h
  have e : dn k (i * 2 ^ k) = i * 2 ^ k := dn_self (Nat.mul_mod_left _ _)
  obtain ⟨q, h1, h2⟩ := mx_up (F := F) (i * 2 ^ k) (8 - k) k (by omega) (by rw [e]; exact hb)
  exact ⟨q, _, h1, h2⟩
theorem mx_there {F : Nat → Bool} {k j n q b : Nat} (hF : ∀ i, F i = true → i < n) (hj : n ≤ j * 2 ^ k) (hq : k ≤ q) (h : mx F q b) : There F k j := by
  have hb : b % 2 ^ k = 0 := mod_of_le hq h.2.1
  have e : b / 2 ^ k * 2 ^ k = b := dn_self hb
  have hlt := mx_lt hF h
  refine ⟨b / 2 ^ k, ?_, ?_⟩
  · have : b / 2 ^ k * 2 ^ k < j * 2 ^ k := by omega
    exact Nat.lt_of_mul_lt_mul_right this
  · rw [e]
    exact blk_in h.2.2.1 (Nat.le_refl _) (by have := Nat.pow_le_pow_right (n := 2) (by decide) hq; omega)
theorem u8_of {x : Int} (h : (Lit.int .u8 x).wf = true) : ∃ y : Nat, x = y ∧ y ≤ 255 := by
  have hb : 0 ≤ x ∧ x ≤ 255 := by simpa [Lit.wf, IntKind.min, IntKind.max, IntKind.signed, IntKind.bits] using h
  exact ⟨x.toNat, by omega, by omega⟩
theorem two_all {w : World} {B p x g n : Nat} {F : Nat → Bool} {f k : Nat} (h : Two w B p x g n F) (hk : k ≤ 8) (hf : f ≤ 5000) : Calls Try.prog 20 #[.pointer (some ⟨x, 0, none⟩), .int .i64 (f : Int), .int .i64 (k : Int), .bool true] w fun e w' => ∃ b : Bool, e = .returned (.bool b) ∧ w' = w ∧ (b = true ↔ blk F k f) := by
  refine (rall_any true h.2.1 h.1.n1024 hk hf).mono ?_
  rintro e w' ⟨rfl, ⟨h1, rfl⟩ | ⟨h1, rfl⟩⟩
  · exact ⟨true, rfl, rfl, by simpa using (allB_blk h.1.fin).mp h1⟩
  · refine ⟨false, rfl, rfl, ?_⟩
    simp only [Bool.false_eq_true, false_iff]
    exact fun hb => h1 ((allB_blk h.1.fin).mpr hb)
/-- Take of the program's object alone. -/
theorem two_take {w : World} {B p x g n o : Nat} {F : Nat → Bool} (h : Two w B p x g n F) (ho : o ≤ 8) :
    Calls Try.prog 13 #[.pointer (some ⟨p, 0, none⟩), .int .i64 (o : Int)] w fun e w' =>
      (∃ k a : Nat, o ≤ k ∧ mx F k a ∧ e = .returned (.tuple #[.int .i64 (a : Int), .int .i64 0]) ∧ BF w' B p n (subB F o a) (G3 B w') ∧ RX w' x g n F ∧ KT B p g w w') ∨
      ((∀ j b, o ≤ j → ¬ mx F j b) ∧ e = .returned (.tuple #[.int .i64 0, .int .i64 8]) ∧ Keep (fun _ => False) w w') := by
  refine (take_any h.2.2.2.2.2 h.1 (fun z hz => hz.1.2) ho).mono ?_
  rintro e w' (⟨k, a, h1, h2, h3, h4, rfl, ht⟩ | ⟨h1, rfl, hk⟩)
  · obtain ⟨t1, t2, t3⟩ := h.took ht
    exact .inl ⟨k, a, h1, h2, rfl, t1, t2, t3⟩
  · exact .inr ⟨h1, rfl, hk⟩
theorem bf_free {w : World} {B p n : Nat} {F : Nat → Bool} {G : Nat → Prop} (h : BF w B p n F G) : Calls Try.prog 23 #[.pointer (some ⟨p, 0, none⟩)] w fun e w' => e = .returned (.int .i64 (cnt F n : Nat)) ∧ Keep (fun _ => False) w w' := by
  obtain ⟨S, h1, _⟩ := h
  exact free_any h1

theorem rx_all_yes {w : World} {x g n f k : Nat} {F : Nat → Bool} (h : RX w x g n F) (hn : n ≤ 1024) (hk : k ≤ 8) (hf : f ≤ 5000) (ha : allB F n f (2 ^ k) true) :
    Calls Try.prog 20 #[.pointer (some ⟨x, 0, none⟩), .int .i64 (f : Int), .int .i64 (k : Int), .bool true] w fun e w' => e = .returned (.bool true) ∧ w' = w := by
  refine (rall_any true h hn hk hf).mono ?_
  rintro e w' ⟨rfl, ⟨_, rfl⟩ | ⟨h1, _⟩⟩
  · exact ⟨rfl, rfl⟩
  · exact absurd ha h1

set_option maxRecDepth 100000 in
set_option maxHeartbeats 4000000 in
theorem finds_walk (n : Int) (la : Option Addr) (l c : Nat) (od : Int) (w : World) (hr : RowsAt w la l [.int .i64, .int .i64, .int .i64, .int .i64, .bool]) (ho : (Lit.int .u8 od).wf = true) :
    Calls Try.prog 8 #[.int .i64 n, .slice la l c, .int .u8 od] w fun e w' => e = .returned (.bool true) ∧ Below w.heap.size w w' := by
  obtain ⟨A, rfl, hA⟩ := acts5_of_rows hr
  obtain ⟨od, rfl, hod⟩ := u8_of ho
  have H1 := Lib.hid hA
  have HOD := Lib.hid hod
  clear hA hr ho hod
  go_enter Try.func8, Try.ntmps8
  go_wp2_with fail
  refine (small_any n _).mono ?_
  rintro e w1 ⟨rfl, rfl⟩
  rcases sm_is n with hb | ⟨m, hm, h8, hm4⟩
  · have HB := Lib.hid hb
    clear hb
    go_wp2_with fail
    refine (made_bad (sm n) HB.out _).mono ?_
    rintro e w2 ⟨rfl, hk2⟩
    have HK2 : Hid (Keep (fun _ => False) w1 w2) := Keep.trans (by (repeat (first | exact Keep.refl _ _ | exact Keep.refl _ _ | refine Keep.drew ?_ | refine Keep.drewN ?_ _ | refine Keep.alloc ?_ _ | refine Keep.setNew ?_ (by omega) _)); done) hk2
    clear hk2
    go_wp2_with fail
    refine (awake_any _).mono ?_
    rintro e w3 ⟨rfl, hk3⟩
    have HK3 : Hid (Keep (fun _ => False) w1 w3) := HK2.out.trans hk3
    clear hk3
    go_wp2_with fail
    refine (awake_any _).mono ?_
    rintro e w4 ⟨rfl, hk4⟩
    have HK4 : Hid (Keep (fun _ => False) w1 w4) := Keep.trans (by (repeat (first | exact HK3.out | exact Keep.refl _ _ | refine Keep.drew ?_ | refine Keep.drewN ?_ _ | refine Keep.alloc ?_ _ | refine Keep.setNew ?_ (by omega) _)); done) hk4
    clear hk4
    go_wp2
    go_ret
    exact ⟨rfl, HK4.out.below⟩
  · rw [hm]
    clear hm
    have HM := Lib.hid (And.intro h8 hm4)
    clear h8 hm4
    go_wp2_with fail
    refine (made_any m HM.out.1 HM.out.2 _).mono ?_
    rintro e w2 ⟨q, p, x, g, rfl, hS, hk2⟩
    have HI2 : Hid (LoopI w1 w2 q p x g m 0) := LoopI.start ⟨_, hS, TkP.start m⟩ hk2
    clear hS hk2
    go_wp2_with fail
    refine (awake_any _).mono ?_
    rintro e w3 ⟨rfl, hk3⟩
    have HI3 : Hid (LoopI w1 w3 q p x g m 0) := HI2.out.keep0 hk3
    clear hk3 HI2
    go_wp2
    go_loopw [9] (fun i wr => ∃ k : Nat, k ≤ A.length ∧ k ≤ 60 ∧ i = .int .i64 (k : Int) ∧ LoopI w1 wr q p x g m k) (fun i _ => 60 - (intOf i).toNat)
    case atStart => exact ⟨0, by omega, by omega, rfl, HI3.out⟩
    case round =>
      obtain ⟨k, hkA, hk60, rfl, hI⟩ := hrel
      have HI := Lib.hid hI
      clear hI HI3
      by_cases hlt : k < A.length ∧ k < 60
      · obtain ⟨hlt, hlt3⟩ := hlt
        obtain ⟨b, o, rfl, hc⟩ := (H1.out.up (by obtain ⟨F, T, _, _, h⟩ := HI.out; exact h)) k hlt
        obtain ⟨y, hy⟩ : ∃ y, A[k]'hlt = y := ⟨_, rfl⟩
        rw [hy] at hc
        obtain ⟨c0, c1, c2, c3, c4, hf⟩ := hc
        have HF := Lib.hid hf
        have k0 : (0 : Int) ≤ k := Int.natCast_nonneg k
        have k1 : (k : Int) < A.length := Int.ofNat_lt.mpr hlt
        clear hf hy
        go_wp2_with (go_at_call 17; refine ((HI.out.keep0 (by (repeat (first | exact Keep.refl _ _ | exact Keep.refl _ _ | refine Keep.drew ?_ | refine Keep.drewN ?_ _ | refine Keep.alloc ?_ _ | refine Keep.setNew ?_ (by omega) _)); done)).do hk60 y.k y.f y.o y.n y.h HF.out).mono ?_; rintro e w5 ⟨rfl, hI5⟩; have HI5 := Lib.hid hI5; clear hI5)
        go_roundw
        case rel => exact ⟨k + 1, by omega, by omega, by go_num, HI5.out⟩
        case measure => simp [intOf]; omega
      · have hkk : k = A.length ∨ (k < A.length ∧ k = 60) := by omega
        clear hlt
        rcases hkk with hkk | ⟨hkl, hkk⟩
        all_goals
          subst hkk
          obtain ⟨F, T, ⟨v, hS, hT⟩, hl, hu⟩ := HI.out
          obtain ⟨z0, z1, z2⟩ := cells3 hS.2.1
          have zx := hS.1.2.1.c0
          have HS := Lib.hid hS
          have HU := Lib.hid hu
          clear hS hT hl hu z2
          obtain ⟨t, ht⟩ : ∃ t, od % 9 = t := ⟨_, rfl⟩
          have ht8 : t ≤ 8 := by omega
          have e9 : (od : Int) % 9 = (t : Int) := by omega
          have hwt : IntKind.i64.wrap (t : Int) = (t : Int) := IntWalk.i64_in _ (by omega)
          obtain ⟨P, hP⟩ : ∃ P, 2 ^ t = P := ⟨_, rfl⟩
          have hP1 : 1 ≤ P ∧ P ≤ 256 := by
            rw [← hP]
            exact ⟨p2 t, by have := Nat.pow_le_pow_right (n := 2) (by decide) ht8; omega⟩
          have HP := Lib.hid hP
          have HSZ : Hid (∀ W, Calls Try.prog 14 #[.int .i64 (t : Int)] W fun e w' => e = .returned (.int .i64 (P : Int)) ∧ w' = W) := fun W => size_p t P ht8 hP W
          have hm1 := HM.out.2
          clear hP ht
          go_wp2
          clear z0 z1 zx e9 hwt
          go_loopw [11, 12] (fun th f w5 => ∃ (f' j : Nat) (tb : Bool), f = .int .i64 (f' : Int) ∧ th = .bool tb ∧ f' = j * P ∧ f' ≤ m + P ∧ (tb = true ↔ There F t j) ∧ Keep (fun _ => False) wr w5) (fun _ f _ => m + 300 - (intOf f).toNat)
          case atStart => exact ⟨0, 0, false, rfl, rfl, by simp, by omega, by simpa using there_zero F t, Keep.refl _ _⟩
          case round =>
            rename_i w5
            obtain ⟨f', j, tb, rfl, rfl, hfj, hfm, htb, hk5⟩ := hrel
            have HK5 := Lib.hid hk5
            have HTB := Lib.hid htb
            have HFJ := Lib.hid hfj
            have HS5 := Lib.hid (HS.out.keep0 HK5.out)
            obtain ⟨z0, z1, z2⟩ := cells3 HS5.out.2.1
            have zx := HS5.out.1.2.1.c0
            clear htb hfj hk5 z2
            by_cases hlt : f' < m
            · obtain ⟨f2, hf2⟩ : ∃ f2, f' + P = f2 := ⟨_, rfl⟩
              have hadd : IntKind.i64.wrap ((f' : Int) + (P : Int)) = (f2 : Int) := (IntWalk.i64_in _ (by omega)).trans (by omega)
              have HF2 := Lib.hid hf2
              have hf5 : f' ≤ 5000 := by omega
              clear hf2
              cases tb
              · go_wp2_with (first | (go_at_call 20; refine (two_all (HS5.out.1.keep0 (by (repeat (first | exact Keep.refl _ _ | exact Keep.refl _ _ | refine Keep.drew ?_ | refine Keep.drewN ?_ _ | refine Keep.alloc ?_ _ | refine Keep.setNew ?_ (by omega) _)); done)) ht8 hf5).mono ?_; rintro e w6 ⟨tb', rfl, rfl, hb6⟩; have HB6 := Lib.hid hb6; clear hb6) | (go_at_call 14; refine (HSZ.out _).mono ?_; rintro e w7 ⟨rfl, rfl⟩))
                go_roundw
                case rel => exact ⟨f2, j + 1, tb', rfl, rfl, by rw [Nat.succ_mul]; have := HF2.out; have := HFJ.out; omega, by have := HF2.out; omega, by (rw [there_succ, HP.out, ← HFJ.out, HB6.out]; have := HTB.out; simp at this; simp [this]), by (repeat (first | exact HK5.out | exact Keep.refl _ _ | refine Keep.drew ?_ | refine Keep.drewN ?_ _ | refine Keep.alloc ?_ _ | refine Keep.setNew ?_ (by omega) _)); done⟩
                case measure => simp [intOf]; have := HF2.out; omega
              · go_wp2_with (go_at_call 14; refine (HSZ.out _).mono ?_; rintro e w7 ⟨rfl, rfl⟩)
                go_roundw
                case rel => exact ⟨f2, j + 1, true, rfl, rfl, by rw [Nat.succ_mul]; have := HF2.out; have := HFJ.out; omega, by have := HF2.out; omega, by (rw [there_succ]; have := HTB.out; simp at this; simp [this]), by (repeat (first | exact HK5.out | exact Keep.refl _ _ | refine Keep.drew ?_ | refine Keep.drewN ?_ _ | refine Keep.alloc ?_ _ | refine Keep.setNew ?_ (by omega) _)); done⟩
                case measure => simp [intOf]; have := HF2.out; omega
            · have HLT := Lib.hid hlt
              have hcm := cnt_le F m
              go_wp2_with (go_at_call 23; refine (two_free HS5.out.1).mono ?_; rintro e w6 ⟨rfl, hk6⟩; have HK6 := Lib.hid hk6; have HS6 := Lib.hid (HS5.out.keep0 hk6); clear hk6 z0 z1 zx; obtain ⟨z0, z1, z2⟩ := cells3 HS6.out.2.1)
              clear z2
              refine (two_take (HS6.out.1.keep0 (by (repeat (first | exact Keep.refl _ _ | exact Keep.refl _ _ | refine Keep.drew ?_ | refine Keep.drewN ?_ _ | refine Keep.alloc ?_ _ | refine Keep.setNew ?_ (by omega) _)); done)) ht8).mono ?_
              rintro e w7 (⟨k', a, hk', hmx, rfl, hbf, hrx, hkt⟩ | ⟨hno, rfl, hk7⟩)
              · have htb : tb = true := HTB.out.mpr (mx_there HS6.out.1.1.fin (by rw [HP.out, ← HFJ.out]; have := HLT.out; omega) hk' hmx)
                subst htb
                have han := blk_end HS6.out.1.1.fin hmx.2.2.1
                have hbt : blk F t a := blk_in hmx.2.2.1 (Nat.le_refl _) (by have := Nat.pow_le_pow_right (n := 2) (by decide) hk'; omega)
                have han2 := blk_end HS6.out.1.1.fin hbt
                have hcnt := cnt_sub han2 hbt
                rw [HP.out] at hcnt
                have ha5 : a ≤ 5000 := by have := p2 t; omega
                have HBT : Hid (allB F m a (2 ^ t) true) := (allB_blk HS6.out.1.1.fin).mpr hbt
                have HK7 : Hid (KT w1.heap.size p g w6 w7) := kt_on (by (repeat (first | exact Keep.refl _ _ | exact Keep.refl _ _ | refine Keep.drew ?_ | refine Keep.drewN ?_ _ | refine Keep.alloc ?_ _ | refine Keep.setNew ?_ (by omega) _)); done) hkt
                have hq7 := kt_block HS6.out.1 HK7.out HS6.out.2.1 (by decide)
                obtain ⟨y0, y1, -⟩ := cells3 hq7
                have HBF := Lib.hid hbf
                have HRX := Lib.hid hrx
                obtain ⟨cf, hcf⟩ : ∃ cf, cnt F m = cf := ⟨_, rfl⟩
                obtain ⟨cg, hcg⟩ : ∃ cg, cnt (subB F t a) m = cg := ⟨_, rfl⟩
                rw [hcf, hcg] at hcnt
                have hsub : IntKind.i64.wrap ((cf : Int) - (P : Int)) = (cg : Int) := (IntWalk.i64_in _ (by omega)).trans (by omega)
                have HCG := Lib.hid hcg
                rw [hcf] at hcm
                rw [hcf]
                clear hcf hcg hbf hrx hkt hmx hq7 hbt z0 z1 hcnt
                go_wp2_with (first | (go_at_call 20; refine (rx_all_yes (HRX.out.keep (S := fun _ => False) (by (repeat (first | exact Keep.refl _ _ | exact Keep.refl _ _ | refine Keep.drew ?_ | refine Keep.drewN ?_ _ | refine Keep.alloc ?_ _ | refine Keep.setNew ?_ (by omega) _)); done) id id) hm1 ht8 ha5 HBT.out).mono ?_; rintro e w8 ⟨rfl, rfl⟩) | (go_at_call 23; refine (bf_free (BF.keep0 HBF.out (by (repeat (first | exact Keep.refl _ _ | exact Keep.refl _ _ | refine Keep.drew ?_ | refine Keep.drewN ?_ _ | refine Keep.alloc ?_ _ | refine Keep.setNew ?_ (by omega) _)); done))).mono ?_; rw [HCG.out]; rintro e w9 ⟨rfl, hk9⟩; have HK9 := Lib.hid hk9; clear hk9) | (go_at_call 14; refine (HSZ.out _).mono ?_; rintro e w10 ⟨rfl, rfl⟩))
                go_ret
                exact ⟨rfl, Up.below ((Keep.trans HU.out (Up.of (HK5.out.trans HK6.out))).trans ((kt_up HS6.out.1 HK7.out).trans (Up.of (by (repeat (first | exact HK9.out | exact Keep.refl _ _ | refine Keep.drew ?_ | refine Keep.drewN ?_ _ | refine Keep.alloc ?_ _ | refine Keep.setNew ?_ (by omega) _)); done))))⟩
              · have htb : tb = false := by
                  rw [← Bool.not_eq_true, HTB.out]
                  intro h
                  obtain ⟨q', b', h1, h2⟩ := there_mx ht8 h
                  exact hno q' b' h1 h2
                subst htb
                have HK7 : Hid (Keep (fun _ => False) w6 w7) := Keep.trans (by (repeat (first | exact Keep.refl _ _ | exact Keep.refl _ _ | refine Keep.drew ?_ | refine Keep.drewN ?_ _ | refine Keep.alloc ?_ _ | refine Keep.setNew ?_ (by omega) _)); done) hk7
                have HS7 := Lib.hid (HS6.out.keep0 HK7.out)
                clear z0 z1 hk7
                obtain ⟨z0, z1, -⟩ := cells3 HS7.out.2.1
                go_wp2_with (go_at_call 23; refine (two_free (HS7.out.1.keep0 (by (repeat (first | exact Keep.refl _ _ | exact Keep.refl _ _ | refine Keep.drew ?_ | refine Keep.drewN ?_ _ | refine Keep.alloc ?_ _ | refine Keep.setNew ?_ (by omega) _)); done))).mono ?_; rintro e w8 ⟨rfl, hk8⟩; have HK8 := Lib.hid hk8; clear hk8)
                go_ret
                exact ⟨rfl, Up.below (Keep.trans HU.out (Up.of ((HK5.out.trans HK6.out).trans (HK7.out.trans (by (repeat (first | exact HK8.out | exact Keep.refl _ _ | refine Keep.drew ?_ | refine Keep.drewN ?_ _ | refine Keep.alloc ?_ _ | refine Keep.setNew ?_ (by omega) _)); done)))))⟩

end Go.Proofs.Ytcbkfilhgeeebaa
