/- Buddy: the reference's Blocks, the walk. -/
import Derived.Test.YtnjcchgbkemekaaAB
set_option linter.unusedVariables false
set_option linter.unusedSimpArgs false
namespace Go.Proofs.Ytnjcchgbkemekaa
open Go.RowKit Go.Own

def RBlI (w wr : World) (n : Nat) (F : Nat → Bool) (v : Value) (i : Value) : Prop :=
  ∃ D t, i = .int .i64 ((t : Nat) : Int) ∧ t ≤ n ∧ BlI F D t ∧ D.length ≤ t ∧ OwnL bkE wr w.heap.size 49 v D ∧ Keep (fun _ => False) w wr
set_option maxRecDepth 100000 in
set_option maxHeartbeats 1000000 in
theorem rblocks_any {w : World} {x g n : Nat} {F : Nat → Bool} (h : RX w x g n F) (hn : n ≤ 1024) (hF : ∀ i, F i = true → i < n) :
    Calls Try.prog 37 #[.pointer (some ⟨x, 0, none⟩)] w (BlC F w) := by
  have HR := Lib.hid h
  have HN := Lib.hid hn
  have HF := Lib.hid hF
  clear h hn hF
  go_enter Try.func37, Try.ntmps37
  go_wp2
  go_loopw [3, 4] (fun v i wr => RBlI w wr n F v i) (fun _ i _ => n - (intOf i).toNat)
  case atStart => exact ⟨[], 0, rfl, by omega, bl_zero F, by simp, OwnL.nil _ _ _, Keep.refl _ _⟩
  case round =>
    obtain ⟨D, t, rfl, htn, hbl, hdl, ho, hk⟩ := hrel
    have HBL := Lib.hid hbl
    have HDL := Lib.hid hdl
    have HO := Lib.hid ho
    have HK := Lib.hid hk
    have HR2 := Lib.hid (HR.out.keep hk id id)
    have c0 := HR2.out.c0
    clear hbl hdl ho hk
    have t0 : (0 : Int) ≤ t := Int.natCast_nonneg t
    by_cases hlt : t < n
    · have hnn := HN.out
      have t1 : (t : Int) < (n : Int) := by omega
      have t2 : (t : Int) < 1024 := by omega
      have t3 : t < 1024 := by omega
      clear hnn
      go_wp2
      go_loopw [5, 6] (fun k i w2 => ∃ (j : Nat) (kk : Int), j ≤ 9 ∧ i = .int .i64 (j : Int) ∧ k = .int .i64 kk ∧ BsI F t j kk ∧ (-1 ≤ kk ∧ kk ≤ 8) ∧ w2 = wr) (fun _ i _ => 9 - (intOf i).toNat)
      case atStart => exact ⟨0, -1, by omega, rfl, rfl, bsI_zero F t, by omega, rfl⟩
      case round =>
        obtain ⟨j, kk, hj, rfl, rfl, hbs, hkk, rfl⟩ := hrel
        have HBS := Lib.hid hbs
        clear hbs
        by_cases hj9 : j < 9
        · have j8 : (j : Int) ≤ 8 := by omega
          have j0 : (0 : Int) ≤ (j : Int) := Int.natCast_nonneg j
          obtain ⟨P, hP⟩ : ∃ P, 2 ^ j = P := ⟨_, rfl⟩
          have HSZ : Hid (∀ W, Calls Try.prog 14 #[.int .i64 (j : Int)] W fun e w' => e = .returned (.int .i64 (P : Int)) ∧ w' = W) := fun W => by
            rw [← hP, show ((2 ^ j : Nat) : Int) = (2 : Int) ^ j by simp]; exact size_any j (by omega) W
          have hP1 : 1 ≤ P ∧ P ≤ 256 := by
            rw [← hP]
            exact ⟨p2 j, by have := Nat.pow_le_pow_right (n := 2) (by decide) (show j ≤ 8 by omega); omega⟩
          have z1 : ¬ ((P : Int) = 0) := by omega
          have z2 : ¬ (P = 0) := by omega
          have HRA := Lib.hid (rall_any (f := t) (k := j) true HR2.out HN.out (by omega) (by omega))
          by_cases hz : t % P = 0
          · have z5 : (t : Int) % (P : Int) = 0 := by rw [← Int.natCast_emod, hz]; rfl
            have z4 : ((t : Int) % (P : Int) == 0) = true := by rw [z5]; rfl
            have HZ : Hid (t % 2 ^ j = 0) := by rw [hP]; exact hz
            clear hP hP1 hz
            go_wp2_with (first | (go_at_call 14; refine (HSZ.out _).mono ?_; rintro e w6 ⟨rfl, rfl⟩) | fail)
            refine HRA.out.mono ?_
            rintro e w7 ⟨rfl, ⟨hall, rfl⟩ | ⟨hall, rfl⟩⟩
            · have HA := Lib.hid ((allB_blk HF.out).mp hall)
              clear hall
              go_wp2
              go_roundw
              case rel => exact ⟨j + 1, (j : Int), by omega, by go_num, rfl, bsI_yes (k := kk) ⟨HZ.out, HA.out⟩, by omega, trivial⟩
              case measure => simp [intOf]; omega
            · have HA : Hid (¬ blk F j t) := fun h => hall ((allB_blk HF.out).mpr h)
              clear hall
              go_wp2
              go_roundw
              case rel => exact ⟨j + 1, kk, by omega, by go_num, rfl, bsI_no HBS.out (fun h => HA.out h.2), by omega, trivial⟩
              case measure => simp [intOf]; omega
          · have z4 : ((t : Int) % (P : Int) == 0) = false := by rw [beq_eq_false_iff_ne]; omega
            have z5 : ¬ (t : Int) % (P : Int) = 0 := by omega
            have HZ : Hid (¬ t % 2 ^ j = 0) := by rw [hP]; exact hz
            clear hP hP1 hz
            go_wp2_with (go_at_call 14; refine (HSZ.out _).mono ?_; rintro e w6 ⟨rfl, rfl⟩)
            go_roundw
            case rel => exact ⟨j + 1, kk, by omega, by go_num, rfl, bsI_no HBS.out (fun h => HZ.out h.1), by omega, trivial⟩
            case measure => simp [intOf]; omega
        · obtain rfl : j = 9 := by omega
          by_cases hk0 : kk < 0
          · obtain rfl : kk = -1 := by omega
            have HB2 : Hid (BlI F D (t + 1)) := bsI_none HBS.out HBL.out
            go_wp2
            go_roundw
            case rel => exact ⟨D, t + 1, by go_num, by omega, HB2.out, by have := HDL.out; omega, HO.out, HK.out⟩
            case measure => simp [intOf]; omega
          · obtain ⟨q, rfl⟩ := Int.eq_ofNat_of_zero_le (show 0 ≤ kk by omega)
            obtain ⟨hq8, hb2⟩ := bsI_some HBS.out HBL.out
            obtain ⟨P, hP⟩ : ∃ P, 2 ^ q = P := ⟨_, rfl⟩
            rw [hP] at hb2
            have HSZ : Hid (∀ W, Calls Try.prog 14 #[.int .i64 (q : Int)] W fun e w' => e = .returned (.int .i64 (P : Int)) ∧ w' = W) := fun W => by
              rw [← hP, show ((2 ^ q : Nat) : Int) = (2 : Int) ^ q by simp]; exact size_any q hq8 W
            have hP1 : 1 ≤ P ∧ P ≤ 256 := by
              rw [← hP]
              exact ⟨p2 q, by have := Nat.pow_le_pow_right (n := 2) (by decide) hq8; omega⟩
            have hPn : t + P ≤ n := by
              have hm : mx F q t := by
                rcases (hb2.2.1 ⟨(t : Int), (q : Int)⟩).mp (by simp) with ⟨k', a, hm, _, e⟩
                simp only [Bk.mk.injEq] at e
                have e1 : t = a := by omega
                have e2 : q = k' := by omega
                rw [e1, e2]; exact hm
              have := HF.out (t + P - 1) (hm.2.2.1 _ (by omega) (by rw [hP]; omega))
              omega
            have HPN := Lib.hid (And.intro hP1 hPn)
            have HB2 := Lib.hid hb2
            have hwt : IntKind.i64.wrap ((t : Int) + (P : Int)) = ((t + P : Nat) : Int) := by
              rw [show (t : Int) + (P : Int) = ((t + P : Nat) : Int) by omega]; exact IntWalk.i64_in _ (by omega)
            obtain ⟨v, hv⟩ : ∃ v, t + P = v := ⟨_, rfl⟩
            rw [hv] at hwt
            have HV := Lib.hid hv
            obtain ⟨a2, c2, rfl, -⟩ := HO.out.slice
            clear hb2 hP hP1 hPn hv
            go_wp2_with (at_builtin; go_loud (refine wpl_appF et43 rfl (.tmp 34) (.tmp 38) rfl w.heap.size (.slice a2 D.length c2) D.length (bkE.cs D) rfl (OwnL.keep HO.out (Keep.alloc (Keep.refl (fun _ => False) _) _) (fun _ _ => id)) ⟨wr.heap.size, 0, none⟩ 1 1 (bkE.c ⟨(t : Int), (q : Int)⟩) rfl rfl (new_cells (heap_alloc_new wr _)) (bkE.one _) (by have := HDL.out; unfold maxLen; omega) (by have := HDL.out; omega) (by have := HK.out.size; simp; omega) ?_; intro v6 w6 hown6 hgrow6 hf6; have HO6 : Hid (OwnL bkE w6 w.heap.size 49 v6 (D ++ [⟨(t : Int), (q : Int)⟩])) := (by unfold Hid; unfold OwnL; rw [List.length_append, bkE.cs_append, bkE.cs_one]; exact hown6); have HK6 : Hid (Keep (fun _ => False) w w6) := (Keep.on HK.out (Keep.grown (S := fun z => (Value.slice a2 D.length c2).ownBlock = some z) (Keep.alloc (Keep.refl _ wr) _) hgrow6 (fun z h1 h2 => h1)) (fun z hz e => by have := (HO.out.lt z e).1; omega)); clear hown6 hgrow6 hf6))
            go_wp2_with (go_at_call 14; refine (HSZ.out _).mono ?_; rintro e w7 ⟨rfl, rfl⟩)
            go_roundw
            case rel => exact ⟨_, v, by go_num, by have := HPN.out; have := HV.out; omega, by rw [← HV.out]; exact HB2.out, by have := HDL.out; have := HPN.out; have := HV.out; simp; omega, HO6.out, HK6.out⟩
            case measure => have := HPN.out; have := HV.out; simp [intOf]; omega
    · obtain rfl : t = n := by omega
      have HE : Hid (IsBl F D) := bl_end HBL.out HF.out (Nat.le_refl _)
      go_wp2
      go_ret
      exact ⟨_, D, rfl, HO.out, HE.out, by have := HDL.out; have := HN.out; omega, HK.out⟩

end Go.Proofs.Ytnjcchgbkemekaa
