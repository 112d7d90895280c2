/- Memory: MemoryDoes, the walk. -/
import Derived.Test.YtjffdimlbppgcaaGreatMS
set_option linter.unusedVariables false
set_option linter.unusedSimpArgs false
namespace Go.Proofs.YtjffdimlbppgcaaGreat
open Go.RowKit Go.Own

abbrev DC (X K W x wg g2 n cap2 : Nat) (w : World) : Prop := w.cell? ⟨X, 0, none⟩ = some (.pointer (some ⟨K, 0, none⟩)) ∧ w.cell? ⟨X, 1, none⟩ = some (.pointer (some ⟨W, 0, none⟩)) ∧ w.cell? ⟨X, 2, none⟩ = some (.slice (some ⟨g2, 0, none⟩) n cap2) ∧ w.cell? ⟨K, 0, none⟩ = some (.pointer (some ⟨x, 0, none⟩)) ∧ w.cell? ⟨W, 0, none⟩ = some (.slice (some ⟨wg, 0, none⟩) (8 * n) (8 * n))
theorem dc_of {w : World} {A : Ad} {P : PS} {g2 cap2 : Nat} (h : Mx w A (.slice (some ⟨g2, 0, none⟩) A.n cap2) P) : DC A.X A.K A.W A.x A.wg g2 A.n cap2 w :=
  ⟨(cells4 h.hX).1, (cells4 h.hX).2.1, (cells4 h.hX).2.2.1, (cell2b h.rk.hX).1, h.rw.c0⟩
theorem dc_keep {w w' : World} {X K W x wg g2 n cap2 : Nat} (h : DC X K W x wg g2 n cap2 w) (k : Keep (fun _ => False) w w') : DC X K W x wg g2 n cap2 w' := by
  have f : ∀ {b j : Nat} {x : Value}, w.cell? ⟨b, j, none⟩ = some x → w'.cell? ⟨b, j, none⟩ = some x := fun h => (k.cell (block_lt_cell h) id).trans h
  exact ⟨f h.1, f h.2.1, f h.2.2.1, f h.2.2.2.1, f h.2.2.2.2⟩
theorem repr_keep {w w' : World} {B p : Nat} {v : Value} {L : List Int} (h : Fr.RepR w B p v L) (k : Keep (fun _ => False) w w') : Fr.RepR w' B p v L :=
  ⟨(k.block p (block_lt h.hp) id).trans h.hp, k.own h.hv (fun _ _ => id), h.ne, h.lo, h.hi, h.st⟩
theorem d_same {w : World} {F : Nat → Bool} {B C : Nat} {v u : Value} {X Y : List Bk} (hX : IsBl F X) (hY : IsBl F Y) (hv : OwnL bkE w B 96 v X) (hu : OwnL bkE w C 96 u Y) (hl : X.length ≤ 10000) :
    Calls Tryz.prog 25 #[v, u] w fun e w' => e = .returned (.bool true) ∧ Keep (fun _ => False) w w' := by
  obtain rfl := isBl_eq hX hY
  exact same_bk B C v u X w hv hu (by omega)
theorem mram_any {w : World} {A : Ad} {N : Nat → Prop} {P : PS} (h : Mo w A N P) : Calls Tryz.prog 13 #[.pointer (some ⟨A.m, 0, none⟩)] w fun e w' => e = .returned (.pointer (some ⟨A.r, 0, none⟩)) ∧ w' = w := by
  have m0 := (cells4 h.hm).1
  clear h
  go_enter Tryz.func13, Tryz.ntmps13
  go_wp2
  go_ret
  exact ⟨rfl, rfl⟩
theorem ad_facts (j k n : Nat) (hj : j < n) (hk : k < 8) (hn : n ≤ 1024) : ∃ (z i : Nat), 8 * i = z ∧ 8 * j + k = i ∧ i < 8 * n ∧ (i : Int) < ((8 * n : Nat) : Int) ∧ (∃ u u8 : Int, IntKind.i64.wrap (64 * (j : Int)) = u ∧ IntKind.i64.wrap (8 * (k : Int)) = u8 ∧ IntKind.i64.wrap (u + u8) = (z : Int)) ∧ (∃ v : Int, IntKind.i64.wrap (8 * (j : Int)) = v ∧ IntKind.i64.wrap (v + (k : Int)) = (i : Int)) :=
  ⟨8 * (8 * j + k), 8 * j + k, rfl, rfl, by omega, by omega, ⟨_, _, IntWalk.i64_in _ (by omega), IntWalk.i64_in _ (by omega), (IntWalk.i64_in _ (by omega)).trans (by omega)⟩, ⟨_, IntWalk.i64_in _ (by omega), (IntWalk.i64_in _ (by omega)).trans (by omega)⟩⟩
theorem countF_is {L : List Int} {a : Nat} (h : a < 6) : Fr.countF L (a : Int) = (L.count (a : Int) : Int) := by
  unfold Fr.countF
  rw [if_pos (Fr.stateB_iff.mpr (by omega))]
  have : a = 0 ∨ a = 1 ∨ a = 2 ∨ a = 3 ∨ a = 4 ∨ a = 5 := by omega
  rcases this with rfl | rfl | rfl | rfl | rfl | rfl <;> rfl
theorem isF_neg (L : List Int) : Fr.isF L (-1) = -1 := by unfold Fr.isF; rw [if_pos (.inl (by decide))]
set_option maxRecDepth 100000 in
set_option maxHeartbeats 4000000 in
theorem does_walk (n mk : Int) (la : Option Addr) (l c : Nat) (w : World) (hr : RowsAt w la l [.int .i64, .int .i64, .int .i64, .int .i64, .int .i64, .int .i64]) :
    Calls Tryz.prog 7 #[.int .i64 n, .int .i64 mk, .slice la l c] w fun e w' => e = .returned (.bool true) ∧ Below w.heap.size w w' := by
  obtain ⟨L, rfl, hA⟩ := acts6_of_rows hr
  have H1 := Lib.hid hA
  clear hA hr
  have hcase : ((sm n < 8 ∨ 1024 < sm n) ∨ (∃ m : Nat, sm n = m ∧ 8 ≤ m ∧ m ≤ 80 ∧ (mk < 0 ∨ (m : Int) < mk))) ∨ ∃ m k : Nat, sm n = m ∧ 8 ≤ m ∧ m ≤ 80 ∧ mk = k ∧ k ≤ m := by
    rcases sm_is n mk with h | h | h
    · exact .inl (.inl h)
    · exact .inl (.inr h)
    · exact .inr h
  rcases hcase with hb | ⟨m, k, hs, h8, h1, rfl, hm⟩
  · have HMN : Hid (∀ W, Calls Tryz.prog 8 #[.int .i64 n, .int .i64 mk, .slice la L.length c] W fun e w' => e = .returned (.tuple #[.pointer none, .pointer none, .bool true]) ∧ Keep (fun _ => False) W w') := fun W => made_none n mk la L.length c W hb
    clear hb
    go_enter Tryz.func7, Tryz.ntmps7
    go_wp2_with fail
    refine (HMN.out _).mono ?_
    rintro e w2 ⟨rfl, hk2⟩
    have HK2 : Hid (Keep (fun _ => False) w w2) := Keep.trans (by (repeat (first | exact Keep.refl _ _ | exact Keep.refl _ _ | refine Keep.drew ?_ | refine Keep.drewN ?_ _ | refine Keep.alloc ?_ _ | refine Keep.setNew ?_ (by omega) _)); done) hk2
    clear hk2
    go_wp2_with fail
    refine (awake_k _).mono ?_
    rintro e w3 ⟨rfl, hk3⟩
    have HK3 : Hid (Keep (fun _ => False) w w3) := HK2.out.trans (Keep.trans (by (repeat (first | exact Keep.refl _ _ | exact Keep.refl _ _ | refine Keep.drew ?_ | refine Keep.drewN ?_ _ | refine Keep.alloc ?_ _ | refine Keep.setNew ?_ (by omega) _)); done) hk3)
    clear hk3
    go_wp2_with fail
    refine (awake_k _).mono ?_
    rintro e w4 ⟨rfl, hk4⟩
    have HK4 : Hid (Keep (fun _ => False) w w4) := HK3.out.trans (Keep.trans (by (repeat (first | exact Keep.refl _ _ | exact Keep.refl _ _ | refine Keep.drew ?_ | refine Keep.drewN ?_ _ | refine Keep.alloc ?_ _ | refine Keep.setNew ?_ (by omega) _)); done) hk4)
    clear hk4
    go_wp2
    go_ret
    exact ⟨rfl, (Up.of HK4.out).below⟩
  · have HMN : Hid (∀ W, Acts6 W la L → Calls Tryz.prog 8 #[.int .i64 n, .int .i64 (k : Int), .slice la L.length c] W fun e w' => ∃ A : Ad, e = .returned (.tuple #[.pointer (some ⟨A.m, 0, none⟩), .pointer (some ⟨A.X, 0, none⟩), .bool true]) ∧ A.n = m ∧ LoopI W w' A) := fun W hA => made_any n m k hs h8 h1 hm la L c W hA
    clear hs h8 h1 hm
    go_enter Tryz.func7, Tryz.ntmps7
    go_wp2_with fail
    refine (HMN.out _ H1.out).mono ?_
    rintro e w2 ⟨A, rfl, hn, hI2⟩
    have HI2 := Lib.hid hI2
    have HAN := Lib.hid hn
    clear hn hI2
    go_wp2_with fail
    refine (awake_k _).mono ?_
    rintro e w3 ⟨rfl, hk3⟩
    have HI3 : Hid (LoopI w w3 A) := HI2.out.keep0 (Keep.trans (by (repeat (first | exact Keep.refl _ _ | exact Keep.refl _ _ | refine Keep.drew ?_ | refine Keep.drewN ?_ _ | refine Keep.alloc ?_ _ | refine Keep.setNew ?_ (by omega) _)); done) hk3)
    clear hk3 HI2
    obtain ⟨hB, ⟨P, ⟨N, iv, hb⟩, hl, _⟩, hu⟩ := HI3.out
    obtain ⟨g2, cap2, rfl, hcc, -⟩ := hb.mx.form
    have HB := Lib.hid hb
    have HLK := Lib.hid hl
    have HU := Lib.hid hu
    have HCC := Lib.hid hcc
    have HN : Hid (A.n ≤ 1024) := hb.mo.ra.n8.2
    have HD := Lib.hid (dc_of hb.mx)
    clear hB hb hl hu hcc HI3
    go_wp2
    go_loopw [10] (fun i wr => ∃ j : Nat, j ≤ A.n ∧ i = .int .i64 (j : Int) ∧ Keep (fun _ => False) w3 wr) (fun i _ => A.n - (intOf i).toNat)
    case atStart => exact ⟨0, Nat.zero_le _, rfl, Keep.refl _ _⟩
    case round =>
      obtain ⟨j, hj, rfl, hk⟩ := hrel
      have HK := Lib.hid hk
      have HDJ := Lib.hid (dc_keep HD.out hk)
      obtain ⟨x0, x1, x2, x3, x4⟩ := HDJ.out
      clear hk
      by_cases hlt : j < A.n
      · have i1 : (j : Int) < A.n := by omega
        have e8 : IntKind.i64.wrap ((j : Int) + 1) = (j : Int) + 1 := IntWalk.i64_in _ (by have := HN.out; omega)
        have HJ := Lib.hid hlt
        have HIS : Hid (Fr.isF P.L (j : Int) = gi P.L j) := isF_in (by rw [HLK.out.ln]; exact hlt)
        have HG : Hid (w3.cell? ⟨g2, j, none⟩ = some (.int .i64 (gi P.L j))) := HCC.out j hlt
        obtain ⟨s, hs⟩ : ∃ s, gi P.L j = s := ⟨_, rfl⟩
        rw [hs] at HIS HG
        clear hs
        go_wp2
        go_region_held3 (fun w' => DC A.X A.K A.W A.x A.wg g2 A.n cap2 w' ∧ w'.cell? ⟨g2, j, none⟩ = some (.int .i64 s))
          (first | exact HC7.out | exact HC6.out | exact HC5.out | exact ⟨HDJ.out, (HK.out.cell (block_lt_cell HG.out) id).trans HG.out⟩)
          (first | (go_at_call 12; refine (mis_any (j : Int) (HB.out.mo.keep0 (Keep.trans HK.out (by (repeat (first | exact Keep.refl _ _ | exact Keep.refl _ _ | refine Keep.drew ?_ | refine Keep.drewN ?_ _ | refine Keep.alloc ?_ _ | refine Keep.setNew ?_ (by omega) _)); done)))).mono ?_; rw [HIS.out]; rintro e w5 ⟨rfl, hk5⟩; have HK5 : Hid (Keep (fun _ => False) w3 w5) := Keep.trans (Keep.trans HK.out (by (repeat (first | exact Keep.refl _ _ | exact Keep.refl _ _ | refine Keep.drew ?_ | refine Keep.drewN ?_ _ | refine Keep.alloc ?_ _ | refine Keep.setNew ?_ (by omega) _)); done)) hk5; have HC5 : Hid (DC A.X A.K A.W A.x A.wg g2 A.n cap2 w5 ∧ w5.cell? ⟨g2, j, none⟩ = some (.int .i64 s)) := ⟨dc_keep HD.out HK5.out, (HK5.out.cell (block_lt_cell HG.out) id).trans HG.out⟩; clear hk5)
                 | (go_at_call 28; refine (mkind_any (HB.out.mo.keep0 (Keep.trans HK5.out (by (repeat (first | exact Keep.refl _ _ | exact Keep.refl _ _ | refine Keep.drew ?_ | refine Keep.drewN ?_ _ | refine Keep.alloc ?_ _ | refine Keep.setNew ?_ (by omega) _)); done))) HJ.out).mono ?_; rintro e w6 ⟨rfl, hk6⟩; have HK6 : Hid (Keep (fun _ => False) w3 w6) := Keep.trans (Keep.trans HK5.out (by (repeat (first | exact Keep.refl _ _ | exact Keep.refl _ _ | refine Keep.drew ?_ | refine Keep.drewN ?_ _ | refine Keep.alloc ?_ _ | refine Keep.setNew ?_ (by omega) _)); done)) hk6; have HC6 : Hid (DC A.X A.K A.W A.x A.wg g2 A.n cap2 w6 ∧ w6.cell? ⟨g2, j, none⟩ = some (.int .i64 s)) := ⟨dc_keep HD.out HK6.out, (HK6.out.cell (block_lt_cell HG.out) id).trans HG.out⟩; clear hk6)
                 | (go_at_call 29; refine (of_in (HB.out.mx.keep0 (Keep.trans HK6.out (by (repeat (first | exact Keep.refl _ _ | exact Keep.refl _ _ | refine Keep.drew ?_ | refine Keep.drewN ?_ _ | refine Keep.alloc ?_ _ | refine Keep.setNew ?_ (by omega) _)); done))).rk HJ.out).mono ?_; rintro e w7 ⟨rfl, hw7⟩; have HK7 : Hid (Keep (fun _ => False) w3 w7) := (by rw [hw7]; exact Keep.trans HK6.out (by (repeat (first | exact Keep.refl _ _ | exact Keep.refl _ _ | refine Keep.drew ?_ | refine Keep.drewN ?_ _ | refine Keep.alloc ?_ _ | refine Keep.setNew ?_ (by omega) _)); done)); have HC7 : Hid (DC A.X A.K A.W A.x A.wg g2 A.n cap2 w7 ∧ w7.cell? ⟨g2, j, none⟩ = some (.int .i64 s)) := ⟨dc_keep HD.out HK7.out, (HK7.out.cell (block_lt_cell HG.out) id).trans HG.out⟩; clear hw7))
        all_goals
          clear x0 x1 x2 x3 x4
          go_wp2
          go_loopw [11] (fun i wr => ∃ k : Nat, k ≤ 8 ∧ i = .int .i64 (k : Int) ∧ Keep (fun _ => False) w3 wr) (fun i _ => 8 - (intOf i).toNat)
          case atStart => exact ⟨0, by decide, rfl, by (repeat (first | exact HK7.out | exact Keep.refl _ _ | refine Keep.drew ?_ | refine Keep.drewN ?_ _ | refine Keep.alloc ?_ _ | refine Keep.setNew ?_ (by omega) _)); done⟩
          case round =>
            obtain ⟨k, hk8, rfl, hk2⟩ := hrel
            have HK2 := Lib.hid hk2
            have HD2 := Lib.hid (dc_keep HD.out hk2)
            clear hk2
            by_cases hlt : k < 8
            · have e9 : IntKind.i64.wrap ((k : Int) + 1) = (k : Int) + 1 := IntWalk.i64_in _ (by omega)
              obtain ⟨z, i, hz, hi, hin, hin2, ⟨u, u8, f1, f2, f3⟩, ⟨v, f4, f5⟩⟩ := ad_facts j k A.n HJ.out hlt HN.out
              have HI := Lib.hid hin
              have HLD : Hid (∀ W, Keep (fun _ => False) w3 W → Calls Tryz.prog 14 #[.pointer (some ⟨A.r, 0, none⟩), .int .i64 (z : Int)] W fun e w' => e = .returned (.tuple #[.int .u64 (P.W i : Nat), .int .i64 0]) ∧ w' = W) := fun W k => by
                rw [← hz]; exact load_ok (HB.out.mo.keep0 k).ra hin
              have HWC : Hid (∀ W, Keep (fun _ => False) w3 W → W.cell? ⟨A.wg, i, none⟩ = some (.int .u64 (P.W i : Nat))) := fun W k => (HB.out.mx.keep0 k).rw.mg.cell hin
              obtain ⟨x0, x1, x2, x3, x4⟩ := HD2.out
              have hwc := HWC.out _ HK2.out
              obtain ⟨N8, hN8⟩ : ∃ N8, 8 * A.n = N8 := ⟨_, rfl⟩
              rw [hN8] at x4 hin2
              clear hz hi hin hN8
              go_wp2_with (first | (go_at_call 13; refine (mram_any (HB.out.mo.keep0 (Keep.trans HK2.out (by (repeat (first | exact Keep.refl _ _ | exact Keep.refl _ _ | refine Keep.drew ?_ | refine Keep.drewN ?_ _ | refine Keep.alloc ?_ _ | refine Keep.setNew ?_ (by omega) _)); done)))).mono ?_; rintro e w8 ⟨rfl, rfl⟩) | (go_at_call 14; refine (HLD.out _ (Keep.trans HK2.out (by (repeat (first | exact Keep.refl _ _ | exact Keep.refl _ _ | refine Keep.drew ?_ | refine Keep.drewN ?_ _ | refine Keep.alloc ?_ _ | refine Keep.setNew ?_ (by omega) _)); done))).mono ?_; rintro e w9 ⟨rfl, rfl⟩))
              go_roundw
              case rel => exact ⟨k + 1, by omega, by go_num, HK2.out⟩
              case measure => simp [intOf]; omega
            · obtain rfl : k = 8 := by omega
              clear hlt
              go_wp2
              go_roundw
              case rel => exact ⟨j + 1, HJ.out, by go_num, HK2.out⟩
              case measure => simp [intOf]; omega
      · obtain rfl : j = A.n := by omega
        clear hlt
        go_wp2
        clear x0 x1 x2 x3 x4
        go_loopw [14] (fun i wr => ∃ k : Nat, k ≤ 6 ∧ i = .int .i64 (k : Int) ∧ Keep (fun _ => False) w3 wr) (fun i _ => 6 - (intOf i).toNat)
        case atStart => exact ⟨0, by decide, rfl, HK.out⟩
        case round =>
          obtain ⟨k, hk6, rfl, hk2⟩ := hrel
          have HK2 := Lib.hid hk2
          have HD2 := Lib.hid (dc_keep HD.out hk2)
          clear hk2
          obtain ⟨x0, x1, x2, x3, x4⟩ := HD2.out
          by_cases hlt : k < 6
          · have e9 : IntKind.i64.wrap ((k : Int) + 1) = (k : Int) + 1 := IntWalk.i64_in _ (by omega)
            have HCF : Hid (Fr.countF P.L (k : Int) = (P.L.count (k : Int) : Int)) := countF_is hlt
            have HNW := heap_alloc_new wr (.cells #[.slice none 0 0] 67)
            have n0 : (wr.alloc (.cells #[.slice none 0 0] 67)).cell? ⟨wr.heap.size, 0, none⟩ = some (.slice none 0 0) := by simp [cell_block HNW]
            have n1 : (wr.alloc (.cells #[.slice none 0 0] 67)).frozen? ⟨wr.heap.size, 0, none⟩ = false := frozen_block HNW
            go_wp2_with fail
            clear n0 n1 HNW x0 x1 x2 x3 x4
            have HW1 := heap_alloc_new wr (.cells #[.slice (some ⟨g2, 0, none⟩) A.n cap2] 67)
            have HKA : Hid (Keep (fun _ => False) w3 (wr.alloc (.cells #[.slice (some ⟨g2, 0, none⟩) A.n cap2] 67))) := HK2.out.alloc _
            have hgl : g2 < wr.heap.size := by obtain ⟨⟨c3, h3⟩, _⟩ := own_typ3 (HB.out.mx.keep0 HK2.out).ri (z := g2) rfl; exact block_lt h3
            obtain ⟨p, hp⟩ : ∃ p, wr.heap.size = p := ⟨_, rfl⟩
            rw [hp] at HW1 hgl ⊢
            generalize wr.alloc (.cells #[.slice (some ⟨g2, 0, none⟩) A.n cap2] 67) = wa at HW1 HKA ⊢
            have hmx := HB.out.mx.keep0 HKA.out
            have HRR : Hid (Fr.RepR wa A.B p (.slice (some ⟨g2, 0, none⟩) A.n cap2) P.L) := ⟨HW1, by rw [HLK.out.ln]; exact hmx.ri, by simp [Value.ownBlock]; omega, by rw [HLK.out.ln]; exact hmx.rk.n8.1, by rw [HLK.out.ln]; exact hmx.rk.n8.2, HLK.out.st⟩
            clear hmx hgl HW1 hp
            refine (mcount_any (k : Int) (HB.out.mo.keep0 (Keep.trans HKA.out (by (repeat (first | exact Keep.refl _ _ | exact Keep.refl _ _ | refine Keep.drew ?_ | refine Keep.drewN ?_ _ | refine Keep.alloc ?_ _ | refine Keep.setNew ?_ (by omega) _)); done)))).mono ?_
            rw [HCF.out]
            rintro e w5 ⟨rfl, hk5⟩
            have HKa5 : Hid (Keep (fun _ => False) wa w5) := Keep.trans (by (repeat (first | exact Keep.refl _ _ | exact Keep.refl _ _ | refine Keep.drew ?_ | refine Keep.drewN ?_ _ | refine Keep.alloc ?_ _ | refine Keep.setNew ?_ (by omega) _)); done) hk5
            have HK5 : Hid (Keep (fun _ => False) w3 w5) := HKA.out.trans HKa5.out
            have HR5 := Lib.hid (repr_keep HRR.out HKa5.out)
            clear hk5
            go_wp2_with (go_at_call 30; refine (Fr.rcount_any A.B p _ P.L (k : Int) _ (repr_keep HR5.out (by (repeat (first | exact Keep.refl _ _ | exact Keep.refl _ _ | refine Keep.drew ?_ | refine Keep.drewN ?_ _ | refine Keep.alloc ?_ _ | refine Keep.setNew ?_ (by omega) _)); done))).mono ?_; rintro e w6 ⟨rfl, rfl⟩)
            go_roundw
            case rel => exact ⟨k + 1, by omega, by go_num, (by (repeat (first | exact HK5.out | exact Keep.refl _ _ | refine Keep.drew ?_ | refine Keep.drewN ?_ _ | refine Keep.alloc ?_ _ | refine Keep.setNew ?_ (by omega) _)); done)⟩
            case measure => simp [intOf]; omega
          · obtain rfl : k = 6 := by omega
            clear hlt
            have HFN : Hid (∀ i, P.F i = true → i < A.n) := HLK.out.fin
            have HMK : Hid (A.mark ≤ A.n) := HB.out.mo.mk8
            have HNG := Lib.hid (isF_neg P.L)
            go_wp2
            go_region_held3 (fun w' => DC A.X A.K A.W A.x A.wg g2 A.n cap2 w')
              (first | with_reducible exact HZ9.out | with_reducible exact HZ8.out | with_reducible exact HZ7.out | with_reducible exact HZ6.out | with_reducible exact HZ5.out | with_reducible exact HZ4.out | with_reducible exact HZ3.out | with_reducible exact HZ2.out | exact HD2.out)
              (first | (go_at_call 10; refine (spare_any (HB.out.mo.keep0 (Keep.trans HK2.out (by (repeat (first | exact Keep.refl _ _ | exact Keep.refl _ _ | refine Keep.drew ?_ | refine Keep.drewN ?_ _ | refine Keep.alloc ?_ _ | refine Keep.setNew ?_ (by omega) _)); done)))).mono ?_; rintro e v2 ⟨rfl, hk⟩; have HL2 : Hid (Keep (fun _ => False) w3 v2) := Keep.trans (Keep.trans HK2.out (by (repeat (first | exact Keep.refl _ _ | exact Keep.refl _ _ | refine Keep.drew ?_ | refine Keep.drewN ?_ _ | refine Keep.alloc ?_ _ | refine Keep.setNew ?_ (by omega) _)); done)) hk; have HZ2 := Lib.hid (dc_keep HD.out HL2.out); clear hk)
                     | (go_at_call 31; refine (rspare_any (HB.out.mx.keep0 (Keep.trans HL2.out (by (repeat (first | exact Keep.refl _ _ | exact Keep.refl _ _ | refine Keep.drew ?_ | refine Keep.drewN ?_ _ | refine Keep.alloc ?_ _ | refine Keep.setNew ?_ (by omega) _)); done))) HMK.out).mono ?_; rintro e v3 ⟨rfl, hk⟩; have HL3 : Hid (Keep (fun _ => False) w3 v3) := Keep.trans (Keep.trans HL2.out (by (repeat (first | exact Keep.refl _ _ | exact Keep.refl _ _ | refine Keep.drew ?_ | refine Keep.drewN ?_ _ | refine Keep.alloc ?_ _ | refine Keep.setNew ?_ (by omega) _)); done)) hk; have HZ3 := Lib.hid (dc_keep HD.out HL3.out); clear hk)
                     | (go_at_call 22; refine (mfree_any (HB.out.mo.keep0 (Keep.trans HL3.out (by (repeat (first | exact Keep.refl _ _ | exact Keep.refl _ _ | refine Keep.drew ?_ | refine Keep.drewN ?_ _ | refine Keep.alloc ?_ _ | refine Keep.setNew ?_ (by omega) _)); done)))).mono ?_; rintro e v4 ⟨rfl, hk⟩; have HL4 : Hid (Keep (fun _ => False) w3 v4) := Keep.trans (Keep.trans HL3.out (by (repeat (first | exact Keep.refl _ _ | exact Keep.refl _ _ | refine Keep.drew ?_ | refine Keep.drewN ?_ _ | refine Keep.alloc ?_ _ | refine Keep.setNew ?_ (by omega) _)); done)) hk; have HZ4 := Lib.hid (dc_keep HD.out HL4.out); clear hk)
                     | (go_at_call 32; refine (rfree_any (HB.out.mx.keep0 (Keep.trans HL4.out (by (repeat (first | exact Keep.refl _ _ | exact Keep.refl _ _ | refine Keep.drew ?_ | refine Keep.drewN ?_ _ | refine Keep.alloc ?_ _ | refine Keep.setNew ?_ (by omega) _)); done))).rk.rx HN.out).mono ?_; rintro e v5 ⟨rfl, hv5⟩; have HL5 : Hid (Keep (fun _ => False) w3 v5) := (by rw [hv5]; exact Keep.trans HL4.out (by (repeat (first | exact Keep.refl _ _ | exact Keep.refl _ _ | refine Keep.drew ?_ | refine Keep.drewN ?_ _ | refine Keep.alloc ?_ _ | refine Keep.setNew ?_ (by omega) _)); done)); have HZ5 := Lib.hid (dc_keep HD.out HL5.out); clear hv5)
                     | (go_at_call 26; refine (mblocks_any (HB.out.mo.keep0 (Keep.trans HL5.out (by (repeat (first | exact Keep.refl _ _ | exact Keep.refl _ _ | refine Keep.drew ?_ | refine Keep.drewN ?_ _ | refine Keep.alloc ?_ _ | refine Keep.setNew ?_ (by omega) _)); done)))).mono ?_; rintro e v6 ⟨u6, D6, rfl, hI, hO, hl, hk⟩; have HI6 := Lib.hid hI; have HO6 := Lib.hid hO; have HLL6 := Lib.hid hl; have HL6 : Hid (Keep (fun _ => False) w3 v6) := Keep.trans (Keep.trans HL5.out (by (repeat (first | exact Keep.refl _ _ | exact Keep.refl _ _ | refine Keep.drew ?_ | refine Keep.drewN ?_ _ | refine Keep.alloc ?_ _ | refine Keep.setNew ?_ (by omega) _)); done)) hk; have HZ6 := Lib.hid (dc_keep HD.out HL6.out); clear hk hI hO hl)
                     | (go_at_call 27; refine (rblocks_any (HB.out.mx.keep0 (Keep.trans HL6.out (by (repeat (first | exact Keep.refl _ _ | exact Keep.refl _ _ | refine Keep.drew ?_ | refine Keep.drewN ?_ _ | refine Keep.alloc ?_ _ | refine Keep.setNew ?_ (by omega) _)); done))).rk.rx HN.out HFN.out).mono ?_; rintro e v7 ⟨u7, D7, rfl, hO, hI, hl, hk⟩; have HI7 := Lib.hid hI; have HO7 := Lib.hid hO; have HK67 : Hid (Keep (fun _ => False) v6 v7) := Keep.trans (by (repeat (first | exact Keep.refl _ _ | exact Keep.refl _ _ | refine Keep.drew ?_ | refine Keep.drewN ?_ _ | refine Keep.alloc ?_ _ | refine Keep.setNew ?_ (by omega) _)); done) hk; have HL7 : Hid (Keep (fun _ => False) w3 v7) := HL6.out.trans HK67.out; have HZ7 := Lib.hid (dc_keep HD.out HL7.out); clear hk hI hO hl)
                     | (go_at_call 25; refine (d_same HI6.out HI7.out ((HO6.out.keep HK67.out (fun _ _ => id)).keep (S := fun _ => False) (by (repeat (first | exact Keep.refl _ _ | exact Keep.refl _ _ | refine Keep.drew ?_ | refine Keep.drewN ?_ _ | refine Keep.alloc ?_ _ | refine Keep.setNew ?_ (by omega) _)); done) (fun _ _ => id)) (HO7.out.keep (S := fun _ => False) (by (repeat (first | exact Keep.refl _ _ | exact Keep.refl _ _ | refine Keep.drew ?_ | refine Keep.drewN ?_ _ | refine Keep.alloc ?_ _ | refine Keep.setNew ?_ (by omega) _)); done) (fun _ _ => id)) HLL6.out).mono ?_; rintro e v8 ⟨rfl, hk⟩; have HL8 : Hid (Keep (fun _ => False) w3 v8) := Keep.trans (Keep.trans HL7.out (by (repeat (first | exact Keep.refl _ _ | exact Keep.refl _ _ | refine Keep.drew ?_ | refine Keep.drewN ?_ _ | refine Keep.alloc ?_ _ | refine Keep.setNew ?_ (by omega) _)); done)) hk; have HZ8 := Lib.hid (dc_keep HD.out HL8.out); clear hk)
                     | (go_at_call 12; refine (mis_any (-1) (HB.out.mo.keep0 (Keep.trans HL8.out (by (repeat (first | exact Keep.refl _ _ | exact Keep.refl _ _ | refine Keep.drew ?_ | refine Keep.drewN ?_ _ | refine Keep.alloc ?_ _ | refine Keep.setNew ?_ (by omega) _)); done)))).mono ?_; rw [HNG.out]; rintro e v9 ⟨rfl, hk⟩; have HL9 : Hid (Keep (fun _ => False) w3 v9) := Keep.trans (Keep.trans HL8.out (by (repeat (first | exact Keep.refl _ _ | exact Keep.refl _ _ | refine Keep.drew ?_ | refine Keep.drewN ?_ _ | refine Keep.alloc ?_ _ | refine Keep.setNew ?_ (by omega) _)); done)) hk; have HZ9 := Lib.hid (dc_keep HD.out HL9.out); clear hk))
            all_goals
              go_wp2
              go_ret
              exact ⟨rfl, Up.below (Keep.trans HU.out (Up.of (Keep.trans HL9.out (by (repeat (first | exact Keep.refl _ _ | exact Keep.refl _ _ | refine Keep.drew ?_ | refine Keep.drewN ?_ _ | refine Keep.alloc ?_ _ | refine Keep.setNew ?_ (by omega) _)); done))))⟩

end Go.Proofs.YtjffdimlbppgcaaGreat
