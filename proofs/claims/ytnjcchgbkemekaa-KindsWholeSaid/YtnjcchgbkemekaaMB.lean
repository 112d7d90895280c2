/- Kinds: do both say the same? -/
import Derived.Test.YtnjcchgbkemekaaMA
set_option linter.unusedVariables false
set_option linter.unusedSimpArgs false
namespace Go.Proofs.Ytnjcchgbkemekaa
open Go.RowKit Go.Own

abbrev QC (q k X x g n : Nat) (w : World) : Prop := w.cell? ⟨q, 0, none⟩ = some (.pointer (some ⟨k, 0, none⟩)) ∧ w.cell? ⟨q, 1, none⟩ = some (.pointer (some ⟨X, 0, none⟩)) ∧ w.cell? ⟨X, 0, none⟩ = some (.pointer (some ⟨x, 0, none⟩)) ∧ w.cell? ⟨x, 0, none⟩ = some (.slice (some ⟨g, 0, none⟩) n n)
theorem qc_of {w : World} {A : Ad} {q : Nat} {F F' : Nat → Bool} {M M' : Nat → Int} {v : Value} {T : List Bk} (h : St w A q F M F' M' v T) : QC q A.k A.X A.x A.g A.n w :=
  ⟨(cells3 h.hq).1, (cells3 h.hq).2.1, (cell2b h.duo.rk.hX).1, h.duo.rk.rx.c0⟩
theorem qc_keep {w w' : World} {q k X x g n : Nat} (h : QC q k X x g n w) (K : Keep (fun _ => False) w w') : QC q k X x g n w' := by
  have f : ∀ {b j : Nat} {x : Value}, w.cell? ⟨b, j, none⟩ = some x → w'.cell? ⟨b, j, none⟩ = some x := fun h => (K.cell (block_lt_cell h) id).trans h
  exact ⟨f h.1, f h.2.1, f h.2.2.1, f h.2.2.2⟩
set_option maxRecDepth 100000 in
set_option maxHeartbeats 2000000 in
theorem same_any {w : World} {A : Ad} {q : Nat} {F : Nat → Bool} {M : Nat → Int} {v : Value} {T : List Bk} (h : St w A q F M F M v T) :
    Calls Try.prog 21 #[.pointer (some ⟨q, 0, none⟩)] w fun e w' => e = .returned (.bool true) ∧ Keep (fun _ => False) w w' := by
  have HS := Lib.hid h
  have HQ := Lib.hid (qc_of h)
  have HN : Hid (A.n ≤ 1024) := h.duo.n1024
  have HFC : Hid (∀ f : Nat, f < A.n → w.cell? ⟨A.g, f, none⟩ = some (.bool (F f))) := fun f hf => h.duo.rk.rx.2.cell hf
  obtain ⟨n, hn⟩ : ∃ n, A.n = n := ⟨_, rfl⟩
  have HA := Lib.hid hn
  rw [hn] at HQ HN HFC
  clear h hn
  go_enter Try.func21, Try.ntmps21
  go_wp2
  go_loopw [3] (fun i wr => ∃ j : Int, -1 ≤ j ∧ j ≤ 5 ∧ i = .int .i64 j ∧ Keep (fun _ => False) w wr) (fun i _ => (5 - intOf i).toNat)
  case atStart => exact ⟨-1, by omega, by omega, rfl, Keep.refl _ _⟩
  case round =>
    obtain ⟨j, hj0, hj5, rfl, hk⟩ := hrel
    have HK := Lib.hid hk
    clear hk
    obtain ⟨z0, z1, z2, z3⟩ := qc_keep HQ.out HK.out
    have HQ1 := Lib.hid (And.intro z0 z1)
    by_cases hlt : j < 5
    · go_wp2
      go_region_held3 (fun w' => w'.cell? ⟨q, 0, none⟩ = some (.pointer (some ⟨A.k, 0, none⟩)) ∧ w'.cell? ⟨q, 1, none⟩ = some (.pointer (some ⟨A.X, 0, none⟩)))
        (first | with_reducible exact HC6.out | with_reducible exact HC5.out | exact HQ1.out)
        (first | (go_at_call 25; refine (kfreeOf j (HS.out.keep0 (Keep.trans HK.out (by (repeat (first | exact Keep.refl _ _ | exact Keep.refl _ _ | refine Keep.drew ?_ | refine Keep.drewN ?_ _ | refine Keep.alloc ?_ _ | refine Keep.setNew ?_ (by omega) _)); done))).duo.ko).mono ?_; rintro e w5 ⟨rfl, hk5⟩; have HK5 : Hid (Keep (fun _ => False) w w5) := Keep.trans (Keep.trans HK.out (by (repeat (first | exact Keep.refl _ _ | exact Keep.refl _ _ | refine Keep.drew ?_ | refine Keep.drewN ?_ _ | refine Keep.alloc ?_ _ | refine Keep.setNew ?_ (by omega) _)); done)) hk5; have HC5 : Hid (w5.cell? ⟨q, 0, none⟩ = some (.pointer (some ⟨A.k, 0, none⟩)) ∧ w5.cell? ⟨q, 1, none⟩ = some (.pointer (some ⟨A.X, 0, none⟩))) := ⟨(qc_keep HQ.out HK5.out).1, (qc_keep HQ.out HK5.out).2.1⟩; clear hk5)
                      | (go_at_call 12; refine (d_rfreeOf j (HS.out.keep0 (Keep.trans HK5.out (by (repeat (first | exact Keep.refl _ _ | exact Keep.refl _ _ | refine Keep.drew ?_ | refine Keep.drewN ?_ _ | refine Keep.alloc ?_ _ | refine Keep.setNew ?_ (by omega) _)); done))).duo).mono ?_; rintro e w6 ⟨rfl, hk6⟩; have HK6 : Hid (Keep (fun _ => False) w w6) := Keep.trans (Keep.trans HK5.out (by (repeat (first | exact Keep.refl _ _ | exact Keep.refl _ _ | refine Keep.drew ?_ | refine Keep.drewN ?_ _ | refine Keep.alloc ?_ _ | refine Keep.setNew ?_ (by omega) _)); done)) hk6; have HC6 : Hid (w6.cell? ⟨q, 0, none⟩ = some (.pointer (some ⟨A.k, 0, none⟩)) ∧ w6.cell? ⟨q, 1, none⟩ = some (.pointer (some ⟨A.X, 0, none⟩))) := ⟨(qc_keep HQ.out HK6.out).1, (qc_keep HQ.out HK6.out).2.1⟩; clear hk6))
      all_goals
        have e1 : IntKind.i64.wrap (j + 1) = j + 1 := IntWalk.i64_in _ (by omega)
        go_wp2
        go_roundw
        case rel => exact ⟨j + 1, by omega, by omega, by go_num, Keep.trans HK6.out (by (repeat (first | exact Keep.refl _ _ | exact Keep.refl _ _ | refine Keep.drew ?_ | refine Keep.drewN ?_ _ | refine Keep.alloc ?_ _ | refine Keep.setNew ?_ (by omega) _)); done)⟩
        case measure => simp [intOf]; omega
    · obtain rfl : j = 5 := by omega
      clear hlt
      go_wp2
      clear z0 z1 z2 z3
      go_loopw [4] (fun i wr => ∃ j : Nat, j ≤ n ∧ i = .int .i64 (j : Int) ∧ Keep (fun _ => False) w wr) (fun i _ => n - (intOf i).toNat)
      case atStart => exact ⟨0, by omega, rfl, HK.out⟩
      case round =>
        obtain ⟨j, hjn, rfl, hk2⟩ := hrel
        have HK2 := Lib.hid hk2
        clear hk2
        obtain ⟨z0, z1, z2, z3⟩ := qc_keep HQ.out HK2.out
        have HQ2 := Lib.hid (qc_keep HQ.out HK2.out)
        by_cases hlt : j < n
        · have i0 : (0 : Int) ≤ j := by omega
          have i1 : (j : Int) < n := by omega
          have HJ : Hid (j < A.n) := by unfold Hid; have := HA.out; omega
          have HFJ : Hid (w.cell? ⟨A.g, j, none⟩ = some (.bool (F j))) := HFC.out j hlt
          obtain ⟨bb, hbb⟩ : ∃ bb, F j = bb := ⟨_, rfl⟩
          rw [hbb] at HFJ
          have HBB := Lib.hid hbb
          clear hbb
          go_wp2
          go_region_held3 (fun w' => QC q A.k A.X A.x A.g n w' ∧ w'.cell? ⟨A.g, j, none⟩ = some (.bool bb))
            (first | with_reducible exact HC7.out | with_reducible exact HC6.out | with_reducible exact HC5.out | exact ⟨HQ2.out, (HK2.out.cell (block_lt_cell HFJ.out) id).trans HFJ.out⟩)
            (first | (go_at_call 17; refine (d_kind (HS.out.keep0 (Keep.trans HK2.out (by (repeat (first | exact Keep.refl _ _ | exact Keep.refl _ _ | refine Keep.drew ?_ | refine Keep.drewN ?_ _ | refine Keep.alloc ?_ _ | refine Keep.setNew ?_ (by omega) _)); done))).duo HJ.out).mono ?_; rintro e w5 ⟨rfl, hk5⟩; have HK5 : Hid (Keep (fun _ => False) w w5) := Keep.trans (Keep.trans HK2.out (by (repeat (first | exact Keep.refl _ _ | exact Keep.refl _ _ | refine Keep.drew ?_ | refine Keep.drewN ?_ _ | refine Keep.alloc ?_ _ | refine Keep.setNew ?_ (by omega) _)); done)) hk5; have HC5 : Hid (QC q A.k A.X A.x A.g n w5 ∧ w5.cell? ⟨A.g, j, none⟩ = some (.bool bb)) := ⟨qc_keep HQ.out HK5.out, (HK5.out.cell (block_lt_cell HFJ.out) id).trans HFJ.out⟩; clear hk5)
                          | (go_at_call 16; refine (d_of (HS.out.keep0 (Keep.trans HK5.out (by (repeat (first | exact Keep.refl _ _ | exact Keep.refl _ _ | refine Keep.drew ?_ | refine Keep.drewN ?_ _ | refine Keep.alloc ?_ _ | refine Keep.setNew ?_ (by omega) _)); done))).duo HJ.out).mono ?_; rintro e w6 ⟨rfl, hk6⟩; have HK6 : Hid (Keep (fun _ => False) w w6) := Keep.trans (Keep.trans HK5.out (by (repeat (first | exact Keep.refl _ _ | exact Keep.refl _ _ | refine Keep.drew ?_ | refine Keep.drewN ?_ _ | refine Keep.alloc ?_ _ | refine Keep.setNew ?_ (by omega) _)); done)) hk6; have HC6 : Hid (QC q A.k A.X A.x A.g n w6 ∧ w6.cell? ⟨A.g, j, none⟩ = some (.bool bb)) := ⟨qc_keep HQ.out HK6.out, (HK6.out.cell (block_lt_cell HFJ.out) id).trans HFJ.out⟩; clear hk6)
                          | (go_at_call 26; refine (khas_in (HS.out.keep0 (Keep.trans HK6.out (by (repeat (first | exact Keep.refl _ _ | exact Keep.refl _ _ | refine Keep.drew ?_ | refine Keep.drewN ?_ _ | refine Keep.alloc ?_ _ | refine Keep.setNew ?_ (by omega) _)); done))).duo.ko HJ.out).mono ?_; rw [HBB.out]; rintro e w7 ⟨rfl, hk7⟩; have HK7 : Hid (Keep (fun _ => False) w w7) := Keep.trans (Keep.trans HK6.out (by (repeat (first | exact Keep.refl _ _ | exact Keep.refl _ _ | refine Keep.drew ?_ | refine Keep.drewN ?_ _ | refine Keep.alloc ?_ _ | refine Keep.setNew ?_ (by omega) _)); done)) hk7; have HC7 : Hid (QC q A.k A.X A.x A.g n w7 ∧ w7.cell? ⟨A.g, j, none⟩ = some (.bool bb)) := ⟨qc_keep HQ.out HK7.out, (HK7.out.cell (block_lt_cell HFJ.out) id).trans HFJ.out⟩; clear hk7))
          all_goals
            have e1 : IntKind.i64.wrap ((j : Int) + 1) = (j : Int) + 1 := IntWalk.i64_in _ (by have := HN.out; omega)
            go_wp2
            go_roundw
            case rel => exact ⟨j + 1, by omega, by go_num, Keep.trans HK7.out (by (repeat (first | exact Keep.refl _ _ | exact Keep.refl _ _ | refine Keep.drew ?_ | refine Keep.drewN ?_ _ | refine Keep.alloc ?_ _ | refine Keep.setNew ?_ (by omega) _)); done)⟩
            case measure => simp [intOf]; omega
        · obtain rfl : j = n := by omega
          clear hlt
          go_wp2
          go_region_held3 (fun w' => QC q A.k A.X A.x A.g j w')
            (first | with_reducible exact HC9.out | with_reducible exact HC8.out | with_reducible exact HC7.out | with_reducible exact HC6.out | with_reducible exact HC5.out | exact HQ2.out)
            (first | (go_at_call 20; refine (d_free (HS.out.keep0 (Keep.trans HK2.out (by (repeat (first | exact Keep.refl _ _ | exact Keep.refl _ _ | refine Keep.drew ?_ | refine Keep.drewN ?_ _ | refine Keep.alloc ?_ _ | refine Keep.setNew ?_ (by omega) _)); done))).duo).mono ?_; rintro e w5 ⟨rfl, hk5⟩; have HK5 : Hid (Keep (fun _ => False) w w5) := Keep.trans (Keep.trans HK2.out (by (repeat (first | exact Keep.refl _ _ | exact Keep.refl _ _ | refine Keep.drew ?_ | refine Keep.drewN ?_ _ | refine Keep.alloc ?_ _ | refine Keep.setNew ?_ (by omega) _)); done)) hk5; have HC5 := Lib.hid (qc_keep HQ.out HK5.out); clear hk5)
                          | (go_at_call 11; refine (d_rfree (HS.out.keep0 (Keep.trans HK5.out (by (repeat (first | exact Keep.refl _ _ | exact Keep.refl _ _ | refine Keep.drew ?_ | refine Keep.drewN ?_ _ | refine Keep.alloc ?_ _ | refine Keep.setNew ?_ (by omega) _)); done))).duo).mono ?_; rintro e w6 ⟨rfl, hk6⟩; have HK6 : Hid (Keep (fun _ => False) w w6) := Keep.trans (Keep.trans HK5.out (by (repeat (first | exact Keep.refl _ _ | exact Keep.refl _ _ | refine Keep.drew ?_ | refine Keep.drewN ?_ _ | refine Keep.alloc ?_ _ | refine Keep.setNew ?_ (by omega) _)); done)) hk6; have HC6 := Lib.hid (qc_keep HQ.out HK6.out); clear hk6)
                          | (go_at_call 18; refine (kblocks (HS.out.keep0 (Keep.trans HK6.out (by (repeat (first | exact Keep.refl _ _ | exact Keep.refl _ _ | refine Keep.drew ?_ | refine Keep.drewN ?_ _ | refine Keep.alloc ?_ _ | refine Keep.setNew ?_ (by omega) _)); done))).duo.ko).mono ?_; rintro e w7 ⟨v7, D7, rfl, hO7, hI7, hl7, hk7⟩; have HO7 := Lib.hid hO7; have HI7 := Lib.hid hI7; have HL7 := Lib.hid hl7; have HK7 : Hid (Keep (fun _ => False) w w7) := Keep.trans (Keep.trans HK6.out (by (repeat (first | exact Keep.refl _ _ | exact Keep.refl _ _ | refine Keep.drew ?_ | refine Keep.drewN ?_ _ | refine Keep.alloc ?_ _ | refine Keep.setNew ?_ (by omega) _)); done)) hk7; have HC7 := Lib.hid (qc_keep HQ.out HK7.out); clear hk7 hO7 hI7 hl7)
                          | (go_at_call 37; refine (d_rblocks (HS.out.keep0 (Keep.trans HK7.out (by (repeat (first | exact Keep.refl _ _ | exact Keep.refl _ _ | refine Keep.drew ?_ | refine Keep.drewN ?_ _ | refine Keep.alloc ?_ _ | refine Keep.setNew ?_ (by omega) _)); done))).duo).mono ?_; rintro e w8 ⟨v8, D8, rfl, hO8, hI8, hl8, hk8⟩; have HO8 := Lib.hid hO8; have HI8 := Lib.hid hI8; have HK78 : Hid (Keep (fun _ => False) w7 w8) := Keep.trans (by (repeat (first | exact Keep.refl _ _ | exact Keep.refl _ _ | refine Keep.drew ?_ | refine Keep.drewN ?_ _ | refine Keep.alloc ?_ _ | refine Keep.setNew ?_ (by omega) _)); done) hk8; have HK8 : Hid (Keep (fun _ => False) w w8) := Keep.trans HK7.out HK78.out; have HC8 := Lib.hid (qc_keep HQ.out HK8.out); clear hk8 hO8 hI8 hl8)
                          | (go_at_call 19; refine (d_same HI7.out HI8.out ((HO7.out.keep HK78.out (fun _ _ => id)).keep (S := fun _ => False) (by (repeat (first | exact Keep.refl _ _ | exact Keep.refl _ _ | refine Keep.drew ?_ | refine Keep.drewN ?_ _ | refine Keep.alloc ?_ _ | refine Keep.setNew ?_ (by omega) _)); done) (fun _ _ => id)) (HO8.out.keep (S := fun _ => False) (by (repeat (first | exact Keep.refl _ _ | exact Keep.refl _ _ | refine Keep.drew ?_ | refine Keep.drewN ?_ _ | refine Keep.alloc ?_ _ | refine Keep.setNew ?_ (by omega) _)); done) (fun _ _ => id)) HL7.out).mono ?_; rintro e w9 ⟨rfl, hk9⟩; have HK9 : Hid (Keep (fun _ => False) w w9) := Keep.trans (Keep.trans HK8.out (by (repeat (first | exact Keep.refl _ _ | exact Keep.refl _ _ | refine Keep.drew ?_ | refine Keep.drewN ?_ _ | refine Keep.alloc ?_ _ | refine Keep.setNew ?_ (by omega) _)); done)) hk9; have HC9 := Lib.hid (qc_keep HQ.out HK9.out); clear hk9))
          all_goals
            go_wp2
            go_ret
            exact ⟨rfl, Keep.trans HK9.out (by (repeat (first | exact Keep.refl _ _ | exact Keep.refl _ _ | refine Keep.drew ?_ | refine Keep.drewN ?_ _ | refine Keep.alloc ?_ _ | refine Keep.setNew ?_ (by omega) _)); done)⟩

end Go.Proofs.Ytnjcchgbkemekaa
