/- CompoundAll: the walk. -/
import Derived.Test.YtdomdjfecnbenaaK
set_option linter.unusedVariables false
set_option linter.unusedSimpArgs false
namespace Go.Proofs.Ytdomdjfecnbenaa
open Go.RowKit Go.Own

set_option maxRecDepth 100000 in
set_option maxHeartbeats 4000000 in
theorem all_walk (a : Int) (ha : 0 ≤ a ∧ a < 256) (la : Option Addr) (l c : Nat) (w : World) (hr : RowsAt w la l [.int .u8]) :
    Calls Try.prog 3 #[.int .u8 a, .slice la l c] w fun e w' => e = .returned (.bool true) ∧ Below w.heap.size w w' := by
  obtain ⟨A, rfl, hA⟩ := bytes_of_rows hr
  have H1 := Lib.hid hA
  clear hA hr
  obtain ⟨f, rfl⟩ := Int.eq_ofNat_of_zero_le ha.1
  obtain ⟨j, hj⟩ : ∃ j, f % 128 = j := ⟨_, rfl⟩
  have hj1 : j < 128 := by omega
  have hw1 : IntKind.i64.wrap (f : Int) = (f : Int) := IntWalk.i64_in _ (by omega)
  have hw2 : Int.tmod (f : Int) 128 = (j : Int) := by rw [← hj]; rfl
  have hw3 : IntKind.i64.wrap (j : Int) = (j : Int) := IntWalk.i64_in _ (by omega)
  have hw4 : IntKind.i64.wrap (8 * (j : Int)) = ((8 * j : Nat) : Int) := by rw [IntWalk.i64_in _ (by omega)]; simp
  go_enter Try.func3, Try.ntmps3
  go_wp2_with (first | (go_at_call 8; go_loud (refine (new_any w.heap.size _ (Nat.le_refl _)).mono ?_; rintro e w1 ⟨p, rfl, hR, hp, hk⟩; have HR := Lib.hid hR; have HK := Lib.hid hk; clear hR hk)) | (go_at_call 9; go_loud (refine (awake_any _).mono ?_; rintro e w2 ⟨rfl, hk2⟩; have HR2 := Lib.hid (HR.out.keep0 hk2); have HK2 := Lib.hid (HK.out.trans hk2); clear hk2)))
  rw [show (8 : Int) * (j : Int) = ((8 * j : Nat) : Int) by simp]
  obtain ⟨at', hat⟩ : ∃ x, 8 * j = x := ⟨_, rfl⟩
  rw [hat]
  have ha8 : at' / 8 * 8 = at' := by omega
  have hax : at' ≤ 1016 := by omega
  clear hw1 hw2 hw3 hw4 hat
  refine (make_first w.heap.size p _ _ [] at' hax ha8 _ HK2.out.size HR2.out).mono ?_
  rintro e w3 ⟨v3, rfl, hR3, hk3, hv3⟩
  have HR3 := Lib.hid hR3
  have HK3 : Hid (Keep (fun _ => False) w w3) := Keep.fresh (B := w.heap.size) ((HK2.out.mono (T := fun x => w.heap.size ≤ x) (fun _ _ h => h.elim)).trans (hk3.mono (T := fun x => w.heap.size ≤ x) (fun x _ e => by rw [e]; exact hp))) (fun _ h => h) (Nat.le_refl _)
  clear hR3 hk3 hv3
  go_wp2_with (at_make; go_loud (refine wpl_make et28 rfl _ _ rfl w3.heap.size 8 8 8 rfl rfl rfl rfl (by decide) (by decide) rfl (Nat.le_refl _) ?_; intro w4 hown hgrow; have HO := Lib.hid hown; have HG := Lib.hid hgrow; clear hown hgrow))
  have HI0 : Hid (Al w w4 p w3.heap.size at' 0 (rowM 0) v3 (.slice none 0 0) []) := by
    have hpl := block_lt HR3.out.hp
    have k4 : Keep (fun _ => False) w3 w4 := Keep.grown (Keep.refl _ _) HG.out (fun x h1 h2 => by simp at h1)
    refine ⟨by omega, fun _ => rfl, HR3.out.keep0 k4, ?_, fun e => ?_, by simp [Value.ownBlock], by omega, hp, HK3.out.size, HK3.out.trans k4⟩
    · rw [(ownsRow_full HO.out).1]; rfl
    · have := (HR3.out.hv.lt _ e).2; omega
  obtain ⟨st, hst⟩ : ∃ x, w3.heap.size = x := ⟨_, rfl⟩
  rw [hst] at HI0 ⊢
  clear HR HR2 HR3 HK HK2 HK3 HO HG hst
  have hat0 : ((at' : Nat) : Int) ≤ 1016 := by omega
  go_loopw [8, 9] (fun n i wr => ∃ k : Nat, k ≤ A.length ∧ i = .int .i64 k ∧ ∃ m v u Q, n = .int .i64 (pc m : Nat) ∧ Al w wr p st at' m (rowM m) v u Q) (fun _ i _ => A.length - (intOf i).toNat)
  case atStart => exact ⟨0, by omega, rfl, 0, _, _, _, rfl, HI0.out⟩
  case round =>
    obtain ⟨k, hk, rfl, m, v, u, Q, rfl, hI⟩ := hrel
    have HI := Lib.hid hI
    have hm8 := hI.m8
    have hpc := pc8 ⟨m, hm8⟩
    simp only at hpc
    clear hI
    by_cases hlt : k < A.length ∧ k < 60
    · obtain ⟨hlt, hl60⟩ := hlt
      obtain ⟨hb, b, o, rfl, c1⟩ := H1.out k hlt
      have d1 := (HI.out.kp.cell (block_lt_cell c1) id).trans c1
      clear c1
      obtain ⟨B1, hB1⟩ : ∃ x, A[k] = x := ⟨_, rfl⟩
      rw [hB1] at d1 hb
      clear hB1
      obtain ⟨r, hr⟩ : ∃ r, B1 % 8 = r := ⟨_, rfl⟩
      have hr8 : r < 8 := by omega
      have hw1 : Int.tmod (B1 : Int) 8 = (r : Int) := by rw [← hr]; rfl
      by_cases hm : m = 255
      · have hn : pc m = 8 := hpc.1.mpr hm
        rw [hn, show ((8 : Nat) : Int) = 8 from rfl]
        go_wp2_with (first | (go_at_call 11; go_loud (refine (al_end HI.out ha8 hax hr8 hm).mono ?_; rintro e w5 ⟨rfl, hI5⟩; have HI5 := Lib.hid hI5; clear hI5)) | (go_at_call 10; go_loud (refine (make_first w.heap.size p _ _ _ at' hax ha8 _ HI5.out.kp.size (by have := HI5.out.rep; rw [if_pos hm] at this; exact this)).mono ?_; rintro e w6 ⟨v6, rfl, -, hk6, -⟩; have HK6 := Lib.hid hk6; clear hk6)))
        go_ret
        exact ⟨rfl, (Keep.fresh (B := w.heap.size) ((HI5.out.kp.mono (T := fun x => w.heap.size ≤ x) (fun _ _ h => h.elim)).trans (HK6.out.mono (T := fun x => w.heap.size ≤ x) (fun x _ e => by rw [e]; exact hp))) (fun _ h => h) (Nat.le_refl _)).below⟩
      · have hn : pc m ≠ 8 := fun h => hm (hpc.1.mp h)
        have h8 : (((pc m : Nat) : Int) == 8) = false := by simp; omega
        have hlM : (rowM m).length = 8 := rfl
        cases hbm : gb (rowM m) r with
        | true =>
          have HBM := Lib.hid hbm
          clear hbm
          go_wp2_with (go_at_call 11; go_loud (refine (al_again HI.out ha8 hax hr8 hm HBM.out).mono ?_; rintro e w5 ⟨rfl, hI5⟩; have HI5 := Lib.hid hI5; clear hI5; have y0 : w5.cell? ⟨st, r, none⟩ = some (.bool (gb (rowM m) r)) := cell_rowB HI5.out.met (by omega); rw [HBM.out] at y0))
          go_roundw
          case rel => exact ⟨k + 1, by omega, by go_num, m, _, _, _, rfl, HI5.out⟩
          case measure => simp [intOf]; omega
        | false =>
          have HBM := Lib.hid hbm
          have hf := (bits8 ⟨m, hm8⟩ ⟨r, hr8⟩).2 hbm
          simp only at hf
          have HF := Lib.hid hf
          have hp1 := hf.2.2.1
          have hpc' := pc8 ⟨m ||| 2 ^ r, hf.2.1⟩
          simp only at hpc'
          clear hbm hf
          by_cases h255 : m ||| 2 ^ r = 255
          · have h7 : pc m = 7 := by have := hpc'.1.mpr h255; omega
            have H255 := Lib.hid h255
            have H7 := Lib.hid h7
            rw [h7, show ((7 : Nat) : Int) = 7 from rfl]
            clear h255 hpc' hpc hp1 h8 hn
            go_wp2_with (go_at_call 11; go_loud (refine (al_new HI.out ha8 hax hr8 hm HBM.out).mono ?_; rw [decide_eq_true H255.out]; rintro e w5 ⟨v5, u5, Q5, rfl, hI5⟩; have HI5 := Lib.hid hI5; clear hI5; have y0 : w5.cell? ⟨st, r, none⟩ = some (.bool (gb (rowM m) r)) := cell_rowB HI5.out.met (by omega); rw [HBM.out] at y0; have y1 : w5.frozen? ⟨st, r, none⟩ = false := frozen_block HI5.out.met))
            go_roundw
            case rel => exact ⟨k + 1, by omega, by go_num, m ||| 2 ^ r, _, _, _, by rw [HF.out.2.2.1, H7.out]; first | rfl | go_num, by have := HI5.out.mark r; rw [← HF.out.2.2.2.1] at this; exact this⟩
            case measure => simp [intOf]; omega
          · have h9 : (((pc m : Nat) : Int) + 1 == 8) = false := by
              have : pc (m ||| 2 ^ r) ≠ 8 := fun h => h255 (hpc'.1.mp h)
              simp; omega
            have H255 := Lib.hid h255
            have hpm : pc m ≤ 8 := hpc.2
            clear h255 hpc' hpc hp1
            go_wp2_with (go_at_call 11; go_loud (refine (al_new HI.out ha8 hax hr8 hm HBM.out).mono ?_; rw [decide_eq_false H255.out]; rintro e w5 ⟨v5, u5, Q5, rfl, hI5⟩; have HI5 := Lib.hid hI5; clear hI5; have y0 : w5.cell? ⟨st, r, none⟩ = some (.bool (gb (rowM m) r)) := cell_rowB HI5.out.met (by omega); rw [HBM.out] at y0; have y1 : w5.frozen? ⟨st, r, none⟩ = false := frozen_block HI5.out.met))
            go_roundw
            case rel => exact ⟨k + 1, by omega, by go_num, m ||| 2 ^ r, _, _, _, by rw [HF.out.2.2.1]; go_num, by have := HI5.out.mark r; rw [← HF.out.2.2.2.1] at this; exact this⟩
            case measure => simp [intOf]; omega
    · by_cases hm : m = 255
      · have hn : pc m = 8 := hpc.1.mpr hm
        rw [hn, show ((8 : Nat) : Int) = 8 from rfl]
        have hR := Lib.hid HI.out.rep
        by_cases h1 : k < A.length
        all_goals
          try have h2 : ¬ k < 60 := fun h => hlt ⟨h1, h⟩
          clear hlt
          go_wp2_with (go_at_call 12; go_loud (refine (all_any w.heap.size p v u [] Q _ (by have := hR.out; rw [if_pos hm] at this; exact this)).mono ?_; rintro e w5 ⟨v5, rfl, hO, hk5⟩; obtain ⟨a5, c5, rfl, -⟩ := hO.slice))
          go_ret
          exact ⟨rfl, (HI.out.kp.trans hk5).below⟩
      · have hn : pc m ≠ 8 := fun h => hm (hpc.1.mp h)
        have hq : Int.tdiv ((pc m : Nat) : Int) 8 = 0 := by
          show ((pc m / 8 : Nat) : Int) = 0
          rw [Nat.div_eq_of_lt (by omega)]; rfl
        have hR := Lib.hid HI.out.rep
        by_cases h1 : k < A.length
        all_goals
          try have h2 : ¬ k < 60 := fun h => hlt ⟨h1, h⟩
          clear hlt
          go_wp2_with (go_at_call 12; go_loud (refine (all_any w.heap.size p v u [⟨at', m⟩] Q _ (by have := hR.out; rw [if_neg hm] at this; exact this)).mono ?_; rintro e w5 ⟨v5, rfl, hO, hk5⟩; obtain ⟨a5, c5, rfl, -⟩ := hO.slice))
          go_ret
          exact ⟨rfl, (HI.out.kp.trans hk5).below⟩

end Go.Proofs.Ytdomdjfecnbenaa
