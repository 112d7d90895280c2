/- ResvFills: the walk. -/
import Derived.Test.YtjkgkkddkiacoaaJ
set_option linter.unusedVariables false
set_option linter.unusedSimpArgs false
namespace Go.Proofs.Ytjkgkkddkiacoaa
open Go.RowKit Go.Own

set_option maxRecDepth 100000 in
set_option maxHeartbeats 4000000 in
theorem fills_walk (s0 f0 : Int) (hs : 0 ≤ s0 ∧ s0 ≤ 255) (hf : 0 ≤ f0 ∧ f0 ≤ 255) (la : Option Addr) (l c : Nat) (w : World) (hr : RowsAt w la l [.int .u8]) :
    Calls Try.prog 4 #[.int .u8 s0, .int .u8 f0, .slice la l c] w fun e w' => e = .returned (.bool true) ∧ Below w.heap.size w w' := by
  obtain ⟨A, rfl, hA⟩ := bytes_of_rows hr
  have H1 := Lib.hid hA
  clear hA hr
  obtain ⟨sp, rfl⟩ := Int.eq_ofNat_of_zero_le hs.1
  obtain ⟨f, rfl⟩ := Int.eq_ofNat_of_zero_le hf.1
  obtain ⟨j, hj⟩ : ∃ j, f % 100 = j := ⟨_, rfl⟩
  have hj1 : j < 100 := by omega
  have hws : IntKind.i64.wrap (sp : Int) = (sp : Int) := IntWalk.i64_in _ (by omega)
  have hw1 : IntKind.i64.wrap (f : Int) = (f : Int) := IntWalk.i64_in _ (by omega)
  have hw2 : Int.tmod (f : Int) 100 = (j : Int) := by rw [← hj]; rfl
  have hw3 : IntKind.i64.wrap (j : Int) = (j : Int) := IntWalk.i64_in _ (by omega)
  go_enter Try.func4, Try.ntmps4
  go_wp2_with (first | (go_at_call 12; go_loud (refine (new_any w.heap.size _ (Nat.le_refl _)).mono ?_; rintro e w1 ⟨p, rfl, hR, hp, hk⟩; have HR := Lib.hid hR; have HK := Lib.hid hk; clear hR hk)) | (go_at_call 9; go_loud (refine (awake_any _).mono ?_; rintro e w2 ⟨rfl, hk2⟩; have HR2 := Lib.hid (HR.out.keep0 hk2); have HK2 := Lib.hid (HK.out.trans hk2); clear hk2)))
  rw [show (8 : Int) * ((j : Int) + 1) = ((8 * (j + 1) : Nat) : Int) by simp, show (8 : Int) * (j : Int) = ((8 * j : Nat) : Int) by simp]
  obtain ⟨a, ha⟩ : ∃ x, 8 * (j + 1) = x := ⟨_, rfl⟩
  obtain ⟨fr, hfr⟩ : ∃ x, 8 * j = x := ⟨_, rfl⟩
  rw [ha, hfr]
  have ha8 : a / 8 * 8 = a := by omega
  have hax : a ≤ 1000 := by omega
  have hf8 : fr / 8 * 8 = fr := by omega
  have hfx : fr ≤ 1000 := by omega
  clear hw1 hw2 hw3 ha hfr
  refine (make_first w.heap.size p _ (sp : Int) a fr (by omega) ⟨by omega, ha8⟩ ⟨by omega, hf8⟩ _ HK2.out.size HR2.out).mono ?_
  rintro e w3 ⟨v3, rfl, hR3, hk3, hv3⟩
  have HR3 := Lib.hid hR3
  have HK3 : Hid (Keep (fun _ => False) w w3) := Keep.fresh (B := w.heap.size) ((HK2.out.mono (T := fun x => w.heap.size ≤ x) (fun _ _ h => h.elim)).trans (hk3.mono (T := fun x => w.heap.size ≤ x) (fun x _ e => by rw [e]; exact hp))) (fun _ h => h) (Nat.le_refl _)
  clear hR3 hk3 hv3
  go_wp2_with (at_make; go_loud (refine wpl_make et38 rfl _ _ rfl w3.heap.size 8 8 8 rfl rfl rfl rfl (by decide) (by decide) rfl (Nat.le_refl _) ?_; intro w4 hown hgrow; have HO := Lib.hid hown; have HG := Lib.hid hgrow; clear hown hgrow))
  have HI0 : Hid (Fi w w4 p w3.heap.size sp a fr 0 (rowM 0) v3) := by
    have hpl := block_lt HR3.out.hp
    have k4 : Keep (fun _ => False) w3 w4 := Keep.grown (Keep.refl _ _) HG.out (fun x h1 h2 => by simp at h1)
    refine ⟨by omega, HR3.out.keep0 k4, ?_, fun e => ?_, by omega, hp, HK3.out.size, HK3.out.trans k4⟩
    · rw [(ownsRow_full HO.out).1]; rfl
    · have := (HR3.out.hv.lt _ e).2; omega
  obtain ⟨st, hst⟩ : ∃ x, w3.heap.size = x := ⟨_, rfl⟩
  rw [hst] at HI0 ⊢
  clear HR HR2 HR3 HK HK2 HK3 HO HG hst
  go_loopw [11] (fun i wr => ∃ k : Nat, k ≤ A.length ∧ i = .int .i64 k ∧ ∃ m v, Fi w wr p st sp a fr m (rowM m) v) (fun i _ => A.length - (intOf i).toNat)
  case atStart => exact ⟨0, by omega, rfl, 0, _, HI0.out⟩
  case round =>
    obtain ⟨k, hk, rfl, m, v, hI⟩ := hrel
    have HI := Lib.hid hI
    have hm8 := hI.m8
    clear hI
    have hlM : (rowM m).length = 8 := rfl
    by_cases hlt : k < A.length ∧ k < 40
    · obtain ⟨hlt, hl60⟩ := hlt
      obtain ⟨hb, b, o, rfl, c1⟩ := H1.out k hlt
      have d1 := (HI.out.kp.cell (block_lt_cell c1) id).trans c1
      clear c1
      obtain ⟨B1, hB1⟩ : ∃ x, A[k] = x := ⟨_, rfl⟩
      rw [hB1] at d1 hb
      clear hB1
      obtain ⟨r, hr⟩ : ∃ r, B1 % 8 = r := ⟨_, rfl⟩
      have hr8 : r < 8 := by omega
      have hw1 : Int.tmod (B1 : Int) 8 = (r : Int) := by rw [← hr]; rfl
      cases hbm : gb (rowM m) r with
      | true =>
        have HBM := Lib.hid hbm
        have hbb := (bits8 ⟨m, hm8⟩ ⟨r, hr8⟩).1 hbm
        simp only at hbb
        have HBB := Lib.hid hbb
        clear hbm hbb
        go_wp2_with (first | (go_at_call 14; go_loud (refine (fi_dup ha8 hax hfx hr8 HI.out HBM.out).mono ?_; rintro e w5 ⟨rfl, hI5⟩; have HI5 := Lib.hid hI5; clear hI5; have y0 : w5.cell? ⟨st, r, none⟩ = some (.bool (gb (rowM m) r)) := cell_rowB HI5.out.met (by omega); rw [HBM.out] at y0)) | (go_at_call 15; have HHH := HI6; clear HHH; go_loud (refine (fi_not ha8 hax hfx hr8 HI6.out HBB.out.2.2.2).mono ?_; rintro e w7 ⟨rfl, hI7⟩; have HI7 := Lib.hid hI7; clear hI7; have y1 : w7.cell? ⟨st, r, none⟩ = some (.bool (gb (rowM m) r)) := cell_rowB HI7.out.met (by omega); have y2 : w7.frozen? ⟨st, r, none⟩ = false := frozen_block HI7.out.met)) | (go_at_call 15; go_loud (refine (fi_clear ha8 hax hfx hr8 HI5.out HBM.out).mono ?_; rintro e w6 ⟨v6, rfl, hI6⟩; have HI6 := Lib.hid hI6; clear hI6)))
        go_roundw
        case rel => exact ⟨k + 1, by omega, by go_num, m &&& (255 - 2 ^ r), _, by have := HI7.out.mark r false; rw [← HBB.out.2.2.1] at this; exact this⟩
        case measure => simp [intOf]; omega
      | false =>
        have HBM := Lib.hid hbm
        have hbb := (bits8 ⟨m, hm8⟩ ⟨r, hr8⟩).2.1 hbm
        simp only at hbb
        have HBB := Lib.hid hbb
        clear hbm hbb
        go_wp2_with (go_at_call 14; go_loud (refine (fi_new ha8 hax hfx hr8 HI.out HBM.out).mono ?_; rintro e w5 ⟨v5, rfl, hI5⟩; have HI5 := Lib.hid hI5; clear hI5; have y0 : w5.cell? ⟨st, r, none⟩ = some (.bool (gb (rowM m) r)) := cell_rowB HI5.out.met (by omega); rw [HBM.out] at y0; have y1 : w5.frozen? ⟨st, r, none⟩ = false := frozen_block HI5.out.met))
        go_roundw
        case rel => exact ⟨k + 1, by omega, by go_num, m ||| 2 ^ r, _, by have := HI5.out.mark r true; rw [← HBB.out.2.2] at this; exact this⟩
        case measure => simp [intOf]; omega
    · have hcz := opN_cz fr m hm8 8 (by omega)
      have HCZ := Lib.hid hcz
      clear hcz
      have e3 : (a + 3) / 8 * 8 = a := by omega
      by_cases h1 : k < A.length
      all_goals
        try have h2 : ¬ k < 40 := fun h => hlt ⟨h1, h⟩
        clear hlt
        go_wp2_with (go_at_call 16; go_loud (rw [show (a : Int) + 3 = ((a + 3 : Nat) : Int) by simp]; refine (break_one w.heap.size p v ⟨sp, a, fr, m⟩ (a + 3) (by omega) (by rw [e3]) (by simp only; omega) hm8 _ HI.out.kp.size HI.out.rep).mono ?_; rintro e w5 ⟨v5, u5, rfl, hR5, hO5, hk5⟩; have HR5 := Lib.hid hR5; have HO5 := Lib.hid hO5; have HM5 := Lib.hid ((hk5.block st (block_lt HI.out.met) HI.out.ps).trans HI.out.met); have K5 : Hid (Keep (fun _ => False) w w5) := Keep.fresh (B := w.heap.size) ((HI.out.kp.mono (T := fun x => w.heap.size ≤ x) (fun _ _ h => h.elim)).trans (hk5.mono (T := fun x => w.heap.size ≤ x) (fun x _ e => by rw [e]; exact hp))) (fun _ h => h) (Nat.le_refl _); obtain ⟨a5, c5, rfl, -⟩ := hO5.slice; clear hR5 hO5 hk5))
        rw [HCZ.out]
        go_loop [17, 18] (fun n i => ∃ q : Nat, q ≤ 8 ∧ i = .int .i64 q ∧ n = .int .i64 (cz m q)) (fun _ i => 8 - (intOf i).toNat)
        case atStart => exact ⟨0, by omega, rfl, rfl⟩
        case round =>
          obtain ⟨q, hq, rfl, rfl⟩ := hrel
          have hle := cz_le m q
          have HC : Hid (cz m (q + 1) = cz m q + if gb (rowM m) q = false then 1 else 0) := rfl
          by_cases hq8 : q < 8
          · have y0 : w5.cell? ⟨st, q, none⟩ = some (.bool (gb (rowM m) q)) := cell_rowB HM5.out (by omega)
            cases hg : gb (rowM m) q with
            | true =>
              rw [hg] at y0
              go_wp2
              go_round
              case rel => exact ⟨q + 1, by omega, by go_num, by rw [HC.out, if_neg (by rw [hg]; simp)]; go_num⟩
              case measure => simp [intOf]; omega
            | false =>
              rw [hg] at y0
              go_wp2
              go_round
              case rel => exact ⟨q + 1, by omega, by go_num, by rw [HC.out, if_pos hg]; go_num⟩
              case measure => simp [intOf]; omega
          · obtain rfl : q = 8 := by omega
            go_wp2_with (go_at_call 10; go_loud (refine (all_any w.heap.size p v5 [] (by simp) _ HR5.out).mono ?_; rintro e w6 ⟨v6, rfl, hO6, hk6⟩; obtain ⟨a6, c6, rfl, -⟩ := hO6.slice))
            go_ret
            exact ⟨rfl, (K5.out.trans hk6).below⟩

end Go.Proofs.Ytjkgkkddkiacoaa
