/- Memory: Right, Is, Kind, Count, Free, Blocks. -/
import Derived.Test.YtjffdimlbppgcaaGreatMP
set_option linter.unusedVariables false
set_option linter.unusedSimpArgs false
namespace Go.Proofs.YtjffdimlbppgcaaGreat
open Go.RowKit Go.Own

section
variable {w : World} {A : Ad} {N : Nat → Prop} {P : PS}
theorem mis_any (i : Int) (h : Mo w A N P) : Calls Tryz.prog 12 #[.pointer (some ⟨A.m, 0, none⟩), .int .i64 i] w fun e w' => e = .returned (.int .i64 (Fr.isF P.L i)) ∧ Keep (fun _ => False) w w' := by
  have HM := Lib.hid h
  have m2 := (cells4 h.hm).2.2.1
  clear h
  go_enter Tryz.func12, Tryz.ntmps12
  go_wp2_with (go_at_call 35; refine (Fr.is_any A.f A.q P.L i _ (HM.out.keep0 (by (repeat (first | exact Keep.refl _ _ | exact Keep.refl _ _ | refine Keep.drew ?_ | refine Keep.drewN ?_ _ | refine Keep.alloc ?_ _ | refine Keep.setNew ?_ (by omega) _)); done)).rf).mono ?_; rintro e w5 ⟨rfl, hw5⟩; have HK5 : Hid (Keep (fun _ => False) w w5) := (by rw [← hw5]; exact (by (repeat (first | exact Keep.refl _ _ | exact Keep.refl _ _ | refine Keep.drew ?_ | refine Keep.drewN ?_ _ | refine Keep.alloc ?_ _ | refine Keep.setNew ?_ (by omega) _)); done)); clear hw5)
  go_ret
  exact ⟨rfl, HK5.out⟩
theorem mcount_any (i : Int) (h : Mo w A N P) : Calls Tryz.prog 21 #[.pointer (some ⟨A.m, 0, none⟩), .int .i64 i] w fun e w' => e = .returned (.int .i64 (Fr.countF P.L i)) ∧ Keep (fun _ => False) w w' := by
  have HM := Lib.hid h
  have m2 := (cells4 h.hm).2.2.1
  clear h
  go_enter Tryz.func21, Tryz.ntmps21
  go_wp2_with (go_at_call 57; refine (Fr.count_any A.f A.q P.L i _ (HM.out.keep0 (by (repeat (first | exact Keep.refl _ _ | exact Keep.refl _ _ | refine Keep.drew ?_ | refine Keep.drewN ?_ _ | refine Keep.alloc ?_ _ | refine Keep.setNew ?_ (by omega) _)); done)).rf).mono ?_; rintro e w5 ⟨rfl, hw5⟩; have HK5 : Hid (Keep (fun _ => False) w w5) := (by rw [← hw5]; exact (by (repeat (first | exact Keep.refl _ _ | exact Keep.refl _ _ | refine Keep.drew ?_ | refine Keep.drewN ?_ _ | refine Keep.alloc ?_ _ | refine Keep.setNew ?_ (by omega) _)); done)); clear hw5)
  go_ret
  exact ⟨rfl, HK5.out⟩
theorem mfree_any (h : Mo w A N P) : Calls Tryz.prog 22 #[.pointer (some ⟨A.m, 0, none⟩)] w fun e w' => e = .returned (.int .i64 (cnt P.F A.n : Nat)) ∧ Keep (fun _ => False) w w' := by
  have HM := Lib.hid h
  have m1 := (cells4 h.hm).2.1
  clear h
  go_enter Tryz.func22, Tryz.ntmps22
  go_wp2_with (go_at_call 34; refine (kfree (HM.out.keep0 (by (repeat (first | exact Keep.refl _ _ | exact Keep.refl _ _ | refine Keep.drew ?_ | refine Keep.drewN ?_ _ | refine Keep.alloc ?_ _ | refine Keep.setNew ?_ (by omega) _)); done)).ko).mono ?_; rintro e w5 ⟨rfl, hk5⟩; have HK5 : Hid (Keep (fun _ => False) w w5) := Keep.trans (by (repeat (first | exact Keep.refl _ _ | exact Keep.refl _ _ | refine Keep.drew ?_ | refine Keep.drewN ?_ _ | refine Keep.alloc ?_ _ | refine Keep.setNew ?_ (by omega) _)); done) hk5; clear hk5)
  go_ret
  exact ⟨rfl, HK5.out⟩
theorem mkind_any {f : Nat} (h : Mo w A N P) (hf : f < A.n) : Calls Tryz.prog 28 #[.pointer (some ⟨A.m, 0, none⟩), .int .i64 (f : Int)] w fun e w' => e = .returned (.int .i64 (P.M (f / 8))) ∧ Keep (fun _ => False) w w' := by
  have HM := Lib.hid h
  have HF := Lib.hid hf
  have m1 := (cells4 h.hm).2.1
  clear h hf
  go_enter Tryz.func28, Tryz.ntmps28
  go_wp2_with (go_at_call 62; refine (kind_in (HM.out.keep0 (by (repeat (first | exact Keep.refl _ _ | exact Keep.refl _ _ | refine Keep.drew ?_ | refine Keep.drewN ?_ _ | refine Keep.alloc ?_ _ | refine Keep.setNew ?_ (by omega) _)); done)).ko HF.out).mono ?_; rintro e w5 ⟨rfl, hw5⟩; have HK5 : Hid (Keep (fun _ => False) w w5) := (by rw [hw5]; exact (by (repeat (first | exact Keep.refl _ _ | exact Keep.refl _ _ | refine Keep.drew ?_ | refine Keep.drewN ?_ _ | refine Keep.alloc ?_ _ | refine Keep.setNew ?_ (by omega) _)); done)); clear hw5)
  go_ret
  exact ⟨rfl, HK5.out⟩
theorem mblocks_any (h : Mo w A N P) : Calls Tryz.prog 26 #[.pointer (some ⟨A.m, 0, none⟩)] w fun e w' => ∃ v D, e = .returned v ∧ IsBl P.F D ∧ OwnL bkE w' w.heap.size 96 v D ∧ D.length ≤ 10000 ∧ Keep (fun _ => False) w w' := by
  have HM := Lib.hid h
  have m1 := (cells4 h.hm).2.1
  clear h
  go_enter Tryz.func26, Tryz.ntmps26
  go_wp2_with (go_at_call 60; refine (kblocks (HM.out.keep0 (by (repeat (first | exact Keep.refl _ _ | exact Keep.refl _ _ | refine Keep.drew ?_ | refine Keep.drewN ?_ _ | refine Keep.alloc ?_ _ | refine Keep.setNew ?_ (by omega) _)); done)).ko).mono ?_; rintro e w5 ⟨v, D, rfl, hO, hI, hl, hk5⟩; have HO := Lib.hid hO; have HI := Lib.hid hI; have HL := Lib.hid hl; have HK5 : Hid (Keep (fun _ => False) w w5) := Keep.trans (by (repeat (first | exact Keep.refl _ _ | exact Keep.refl _ _ | refine Keep.drew ?_ | refine Keep.drewN ?_ _ | refine Keep.alloc ?_ _ | refine Keep.setNew ?_ (by omega) _)); done) hk5; clear hO hI hl hk5)
  go_ret
  exact ⟨v, D, rfl, HI.out, HO.out.base (fun x hx => (HO.out.lt x hx).1), HL.out, HK5.out⟩
set_option maxRecDepth 100000 in
set_option maxHeartbeats 2000000 in
theorem right_any (h : Mo w A N P) (lk : Lk A.n P) : Calls Tryz.prog 20 #[.pointer (some ⟨A.m, 0, none⟩)] w fun e w' => e = .returned (.bool true) ∧ Keep (fun _ => False) w w' := by
  have HM := Lib.hid h
  have HLK := Lib.hid lk
  have HM12 : Hid (w.cell? ⟨A.m, 1, none⟩ = some (.pointer (some ⟨A.k, 0, none⟩)) ∧ w.cell? ⟨A.m, 2, none⟩ = some (.pointer (some ⟨A.f, 0, none⟩))) := ⟨(cells4 h.hm).2.1, (cells4 h.hm).2.2.1⟩
  have HLN : Hid (P.L.length = A.n) := h.ln
  have HN : Hid (A.n ≤ 1024) := h.ra.n8.2
  obtain ⟨m1, m2⟩ := HM12.out
  clear h lk
  go_enter Tryz.func20, Tryz.ntmps20
  go_wp2_with (go_at_call 55; refine (Fr.len_any A.f A.q P.L.length _ (HM.out.keep0 (by (repeat (first | exact Keep.refl _ _ | exact Keep.refl _ _ | refine Keep.drew ?_ | refine Keep.drewN ?_ _ | refine Keep.alloc ?_ _ | refine Keep.setNew ?_ (by omega) _)); done)).rf.c0).mono ?_; rw [HLN.out]; rintro e w5 ⟨rfl, hw5⟩; have HK5 : Hid (Keep (fun _ => False) w w5) := (by rw [← hw5]; exact (by (repeat (first | exact Keep.refl _ _ | exact Keep.refl _ _ | refine Keep.drew ?_ | refine Keep.drewN ?_ _ | refine Keep.alloc ?_ _ | refine Keep.setNew ?_ (by omega) _)); done)); clear hw5)
  go_loopw [11] (fun i wr => ∃ j : Nat, j ≤ A.n ∧ i = .int .i64 (j : Int) ∧ Keep (fun _ => False) w wr) (fun i _ => A.n - (intOf i).toNat)
  case atStart => exact ⟨0, Nat.zero_le _, rfl, HK5.out⟩
  case round =>
    obtain ⟨j, hj, rfl, hk⟩ := hrel
    have HK := Lib.hid hk
    have HC : Hid (wr.cell? ⟨A.m, 1, none⟩ = some (.pointer (some ⟨A.k, 0, none⟩)) ∧ wr.cell? ⟨A.m, 2, none⟩ = some (.pointer (some ⟨A.f, 0, none⟩))) := ⟨(hk.cell (block_lt_cell HM12.out.1) id).trans HM12.out.1, (hk.cell (block_lt_cell HM12.out.2) id).trans HM12.out.2⟩
    obtain ⟨n1, n2⟩ := HC.out
    clear hk m1 m2
    by_cases hlt : j < A.n
    · have i1 : (j : Int) < A.n := by omega
      have e8 : IntKind.i64.wrap ((j : Int) + 1) = (j : Int) + 1 := IntWalk.i64_in _ (by have := HN.out; omega)
      have HJ := Lib.hid hlt
      have hfr := HLK.out.fr j hlt
      have HIS : Hid (Fr.isF P.L (j : Int) = gi P.L j) := isF_in (by rw [HLN.out]; exact hlt)
      obtain ⟨s, hs⟩ : ∃ s, gi P.L j = s := ⟨_, rfl⟩
      obtain ⟨bb, hbb⟩ : ∃ bb, P.F j = bb := ⟨_, rfl⟩
      have HBB := Lib.hid hbb
      rw [hs] at hfr HIS
      rw [hbb] at hfr
      have hsb : (s == 0) = bb := by
        cases bb
        · simp at hfr; simpa using hfr
        · simp at hfr; simpa using hfr
      clear hs hbb hfr
      go_wp2
      go_region_held3 (fun w' => w'.cell? ⟨A.m, 1, none⟩ = some (.pointer (some ⟨A.k, 0, none⟩)) ∧ w'.cell? ⟨A.m, 2, none⟩ = some (.pointer (some ⟨A.f, 0, none⟩)))
        (first | exact HC7.out | exact HC6.out | exact HC.out)
        (first | (go_at_call 35; refine (Fr.is_any A.f A.q P.L (j : Int) _ (HM.out.keep0 (Keep.trans HK.out (by (repeat (first | exact Keep.refl _ _ | exact Keep.refl _ _ | refine Keep.drew ?_ | refine Keep.drewN ?_ _ | refine Keep.alloc ?_ _ | refine Keep.setNew ?_ (by omega) _)); done))).rf).mono ?_; rw [HIS.out]; rintro e w6 ⟨rfl, hw6⟩; have HK6 : Hid (Keep (fun _ => False) w w6) := (by rw [← hw6]; exact Keep.trans HK.out (by (repeat (first | exact Keep.refl _ _ | exact Keep.refl _ _ | refine Keep.drew ?_ | refine Keep.drewN ?_ _ | refine Keep.alloc ?_ _ | refine Keep.setNew ?_ (by omega) _)); done)); have HC6 : Hid (w6.cell? ⟨A.m, 1, none⟩ = some (.pointer (some ⟨A.k, 0, none⟩)) ∧ w6.cell? ⟨A.m, 2, none⟩ = some (.pointer (some ⟨A.f, 0, none⟩))) := ⟨(HK6.out.cell (block_lt_cell HM12.out.1) id).trans HM12.out.1, (HK6.out.cell (block_lt_cell HM12.out.2) id).trans HM12.out.2⟩; clear hw6)
               | (go_at_call 56; refine (khas_in (HM.out.keep0 (Keep.trans HK6.out (by (repeat (first | exact Keep.refl _ _ | exact Keep.refl _ _ | refine Keep.drew ?_ | refine Keep.drewN ?_ _ | refine Keep.alloc ?_ _ | refine Keep.setNew ?_ (by omega) _)); done))).ko HJ.out).mono ?_; rw [HBB.out]; rintro e w7 ⟨rfl, hk7⟩; have HK7 : Hid (Keep (fun _ => False) w w7) := Keep.trans (Keep.trans HK6.out (by (repeat (first | exact Keep.refl _ _ | exact Keep.refl _ _ | refine Keep.drew ?_ | refine Keep.drewN ?_ _ | refine Keep.alloc ?_ _ | refine Keep.setNew ?_ (by omega) _)); done)) hk7; have HC7 : Hid (w7.cell? ⟨A.m, 1, none⟩ = some (.pointer (some ⟨A.k, 0, none⟩)) ∧ w7.cell? ⟨A.m, 2, none⟩ = some (.pointer (some ⟨A.f, 0, none⟩))) := ⟨(HK7.out.cell (block_lt_cell HM12.out.1) id).trans HM12.out.1, (HK7.out.cell (block_lt_cell HM12.out.2) id).trans HM12.out.2⟩; clear hk7))
      all_goals
        go_wp2
        go_roundw
        case rel => exact ⟨j + 1, HJ.out, by go_num, Keep.trans HK7.out (by (repeat (first | exact Keep.refl _ _ | exact Keep.refl _ _ | refine Keep.drew ?_ | refine Keep.drewN ?_ _ | refine Keep.alloc ?_ _ | refine Keep.setNew ?_ (by omega) _)); done)⟩
        case measure => simp [intOf]; omega
    · obtain rfl : j = A.n := by omega
      clear hlt
      go_wp2
      go_ret
      exact ⟨rfl, HK.out⟩
end

end Go.Proofs.YtjffdimlbppgcaaGreat
