/- Memory: awake. -/
import Derived.Test.YtjffdimlbppgcaaGreatMQ
import Derived.Test.YtjffdimlbppgcaaGreatKJ
set_option linter.unusedVariables false
set_option linter.unusedSimpArgs false
namespace Go.Proofs.YtjffdimlbppgcaaGreat
open Go.RowKit Go.Own

theorem pc_up {w w' : World} {A : Ad} {N : Nat → Prop} {P : PS} (h : Mo w A N P) (k : Keep (PC A N w) w w') : Keep (fun z => A.B ≤ z) w w' := k.mono fun z _ hz => by
  have hb := h.bm
  rcases hz with rfl | rfl | rfl | rfl | rfl | ⟨⟨h1, _⟩, _⟩
  · exact hb.1
  · exact hb.2.1
  · exact hb.2.2.1
  · exact hb.2.2.2.1
  · exact hb.2.2.2.2
  · exact h1
def wP1 : PS := gvn (P0 16) 0 3 2 (subB (upTo 16) 3 0) (fun _ => 1)
def wM1 : Nat → Int := tkM (fun _ => 1) 0 0 ⟨8, 3⟩ false
def wP2 : PS := gvn wP1 8 0 1 (subB wP1.F 0 8) wM1
theorem w_1 {D : List Bk} (h : IsBl (upTo 16) D) : tkP (fun _ => 1) D 3 1 = some (⟨0, 4⟩, true) := by
  rw [isBl_conc (n := 16) [(0, 4)] (fun i hi => by simpa [upTo] using hi) h (by decide +kernel) (by decide)]
  decide +kernel
theorem w_2 {D : List Bk} (h : IsBl wP1.F D) : tkP (fun _ => 1) D 0 0 = some (⟨8, 3⟩, false) := by
  rw [isBl_conc (n := 16) [(8, 3)] (fun i hi => by have := ((subB_iff _ _ _ _).mp hi).1; simpa [upTo] using this) h (by decide +kernel) (by decide)]
  decide +kernel
theorem spr_0 {A : Ad} (hn : A.n = 16) (hm : A.mark = 2) : spr A (P0 16) = 14 ∧ spr A wP1 = 6 := by
  unfold spr
  rw [hn, hm]
  constructor <;> decide +kernel

theorem b_1 {A : Ad} {E : Value} {P1 : PS} (hn : A.n = 16) (hm : A.mark = 2) (h : BlkR A (P0 16) 3 1 2 E P1) : E = .tuple #[.int .i64 0, .int .i64 0] ∧ P1 = wP1 := by
  rcases h with ⟨hb, _, _⟩ | ⟨_, hs, _, _⟩ | ⟨_, _, D, hD, ⟨ht, _, _⟩ | ⟨y, own, ht, rfl, rfl⟩⟩
  · unfold badB at hb; omega
  · rw [(spr_0 hn hm).1] at hs; exact absurd hs (by decide)
  · have := w_1 hD
    have ht' : tkP (fun _ => 1) D 3 1 = none := ht
    rw [this] at ht'; cases ht'
  · have := w_1 hD
    have ht' : tkP (fun _ => 1) D 3 1 = some (y, own) := ht
    rw [this] at ht'
    injection ht' with ht'
    injection ht' with e1 e2
    subst e1; subst e2
    refine ⟨rfl, ?_⟩
    rw [tkM_own]
    rfl
theorem b_2 {A : Ad} {E : Value} {P1 : PS} (hn : A.n = 16) (hm : A.mark = 2) (h : BlkR A wP1 3 1 2 E P1) : E = .tuple #[.int .i64 0, .int .i64 8] ∧ P1 = wP1 := by
  rcases h with ⟨hb, _, _⟩ | ⟨_, hs, rfl, rfl⟩ | ⟨_, hs, _⟩
  · unfold badB at hb; omega
  · exact ⟨rfl, rfl⟩
  · rw [(spr_0 hn hm).2] at hs; exact absurd (by decide) hs
theorem b_3 {A : Ad} {E : Value} {P1 : PS} (hn : A.n = 16) (hm : A.mark = 2) (h : BlkR A wP1 0 0 1 E P1) : E = .tuple #[.int .i64 8, .int .i64 0] ∧ P1 = wP2 := by
  rcases h with ⟨hb, _, _⟩ | ⟨_, hs, _, _⟩ | ⟨_, _, D, hD, ⟨ht, _, _⟩ | ⟨y, own, ht, rfl, rfl⟩⟩
  · unfold badB at hb; omega
  · rw [(spr_0 hn hm).2] at hs; exact absurd hs (by decide)
  · have := w_2 hD
    have ht' : tkP (fun _ => 1) D 0 0 = none := ht
    rw [this] at ht'; cases ht'
  · have := w_2 hD
    have ht' : tkP (fun _ => 1) D 0 0 = some (y, own) := ht
    rw [this] at ht'
    injection ht' with ht'
    injection ht' with e1 e2
    subst e1; subst e2
    exact ⟨rfl, rfl⟩
theorem w_is : Fr.isF wP2.L 3 = 2 := by decide +kernel
set_option maxRecDepth 100000 in
set_option maxHeartbeats 2000000 in
theorem awake_any (w : World) : Calls Tryz.prog 9 #[] w fun e w' => e = .returned (.bool true) ∧ Keep (fun z => w.heap.size ≤ z) w w' := by
  go_enter Tryz.func9, Tryz.ntmps9
  go_wp2_with fail
  refine (mnew_any 16 2 (by decide) (by decide) (by decide) _).mono ?_
  rintro e w1 ⟨m, r, rb, k, b, kr, f, q, rfl, hMo, hk1⟩
  obtain ⟨A, hAm, hAn, hAk, hAB, hm1⟩ : ∃ A : Ad, A.m = m ∧ A.n = 16 ∧ A.mark = 2 ∧ A.B = w.heap.size ∧ Mo w1 A (fun z => z = kr ∨ z = q) (P0 16) := ⟨⟨w.heap.size, m, r, rb, k, b, kr, f, q, 16, 2, 0, 0, 0, 0, 0, 0, 0, 0⟩, rfl, rfl, rfl, rfl, hMo _ ⟨rfl, rfl, rfl, rfl, rfl, rfl, rfl, rfl, rfl, rfl, rfl⟩⟩
  subst hAm
  generalize (fun z => z = kr ∨ z = q) = N at hm1
  have HAN := Lib.hid hAn
  have HAK := Lib.hid hAk
  have HAB := Lib.hid hAB
  have HM1 := Lib.hid hm1
  have HL1 : Hid (Lk A.n (P0 16)) := by unfold Hid; rw [hAn]; exact lk0 16
  have HK1 : Hid (Keep (fun _ => False) w w1) := Keep.trans (by (repeat (first | exact Keep.refl _ _ | exact Keep.refl _ _ | refine Keep.drew ?_ | refine Keep.drewN ?_ _ | refine Keep.alloc ?_ _ | refine Keep.setNew ?_ (by omega) _)); done) hk1
  clear hMo hAn hAk hAB hm1 hk1
  go_wp2_with fail
  refine (spare_any (HM1.out.keep0 (by (repeat (first | exact Keep.refl _ _ | exact Keep.refl _ _ | refine Keep.drew ?_ | refine Keep.drewN ?_ _ | refine Keep.alloc ?_ _ | refine Keep.setNew ?_ (by omega) _)); done))).mono ?_
  rw [(spr_0 HAN.out HAK.out).1]
  rintro e w2 ⟨rfl, hk2⟩
  have HK12 : Hid (Keep (fun _ => False) w1 w2) := Keep.trans (by (repeat (first | exact Keep.refl _ _ | exact Keep.refl _ _ | refine Keep.drew ?_ | refine Keep.drewN ?_ _ | refine Keep.alloc ?_ _ | refine Keep.setNew ?_ (by omega) _)); done) hk2
  have HM2 := Lib.hid (HM1.out.keep0 HK12.out)
  clear hk2
  go_wp2_with fail
  refine (block_any 3 1 2 (HM2.out.keep0 (by (repeat (first | exact Keep.refl _ _ | exact Keep.refl _ _ | refine Keep.drew ?_ | refine Keep.drewN ?_ _ | refine Keep.alloc ?_ _ | refine Keep.setNew ?_ (by omega) _)); done)) HL1.out).mono ?_
  rintro e w3 ⟨E, P1, rfl, hR, hm3, hk3⟩
  have hl3 := hR.lk HL1.out
  obtain ⟨rfl, rfl⟩ := b_1 HAN.out HAK.out hR
  have HM3 := Lib.hid hm3
  have HL3 := Lib.hid hl3
  have HK3 : Hid (Keep (fun z => A.B ≤ z) w w3) := Keep.trans ((HK1.out.trans HK12.out).mono fun _ _ h => h.elim) (pc_up HM2.out (pc_on (by (repeat (first | exact Keep.refl _ _ | exact Keep.refl _ _ | refine Keep.drew ?_ | refine Keep.drewN ?_ _ | refine Keep.alloc ?_ _ | refine Keep.setNew ?_ (by omega) _)); done) hk3))
  clear hR hm3 hk3 hl3
  go_wp2_with fail
  refine (block_any 3 1 2 (HM3.out.keep0 (by (repeat (first | exact Keep.refl _ _ | exact Keep.refl _ _ | refine Keep.drew ?_ | refine Keep.drewN ?_ _ | refine Keep.alloc ?_ _ | refine Keep.setNew ?_ (by omega) _)); done)) HL3.out).mono ?_
  rintro e w4 ⟨E, P1, rfl, hR, hm4, hk4⟩
  obtain ⟨rfl, rfl⟩ := b_2 HAN.out HAK.out hR
  have HM4 := Lib.hid hm4
  have HK4 : Hid (Keep (fun z => A.B ≤ z) w w4) := Keep.trans HK3.out (pc_up HM3.out (pc_on (by (repeat (first | exact Keep.refl _ _ | exact Keep.refl _ _ | refine Keep.drew ?_ | refine Keep.drewN ?_ _ | refine Keep.alloc ?_ _ | refine Keep.setNew ?_ (by omega) _)); done) hk4))
  clear hR hm4 hk4
  go_wp2_with fail
  refine (one_any 0 1 (HM4.out.keep0 (by (repeat (first | exact Keep.refl _ _ | exact Keep.refl _ _ | refine Keep.drew ?_ | refine Keep.drewN ?_ _ | refine Keep.alloc ?_ _ | refine Keep.setNew ?_ (by omega) _)); done)) HL3.out).mono ?_
  rintro e w5 ⟨E, P1, rfl, hR, hm5, hk5⟩
  have hl5 := hR.lk HL3.out
  obtain ⟨rfl, rfl⟩ := b_3 HAN.out HAK.out hR
  have HM5 := Lib.hid hm5
  have HL5 := Lib.hid hl5
  have HK5 : Hid (Keep (fun z => A.B ≤ z) w w5) := Keep.trans HK4.out (pc_up HM4.out (pc_on (by (repeat (first | exact Keep.refl _ _ | exact Keep.refl _ _ | refine Keep.drew ?_ | refine Keep.drewN ?_ _ | refine Keep.alloc ?_ _ | refine Keep.setNew ?_ (by omega) _)); done) hk5))
  clear hR hm5 hk5 hl5
  go_wp2_with fail
  refine (mis_any 3 (HM5.out.keep0 (by (repeat (first | exact Keep.refl _ _ | exact Keep.refl _ _ | refine Keep.drew ?_ | refine Keep.drewN ?_ _ | refine Keep.alloc ?_ _ | refine Keep.setNew ?_ (by omega) _)); done))).mono ?_
  rw [w_is]
  rintro e w6 ⟨rfl, hk6⟩
  have HK6 : Hid (Keep (fun _ => False) w5 w6) := Keep.trans (by (repeat (first | exact Keep.refl _ _ | exact Keep.refl _ _ | refine Keep.drew ?_ | refine Keep.drewN ?_ _ | refine Keep.alloc ?_ _ | refine Keep.setNew ?_ (by omega) _)); done) hk6
  clear hk6
  go_wp2_with fail
  refine (right_any (HM5.out.keep0 (Keep.trans HK6.out (by (repeat (first | exact Keep.refl _ _ | exact Keep.refl _ _ | refine Keep.drew ?_ | refine Keep.drewN ?_ _ | refine Keep.alloc ?_ _ | refine Keep.setNew ?_ (by omega) _)); done))) HL5.out).mono ?_
  rintro e w7 ⟨rfl, hk7⟩
  have HK7 : Hid (Keep (fun _ => False) w5 w7) := Keep.trans (Keep.trans HK6.out (by (repeat (first | exact Keep.refl _ _ | exact Keep.refl _ _ | refine Keep.drew ?_ | refine Keep.drewN ?_ _ | refine Keep.alloc ?_ _ | refine Keep.setNew ?_ (by omega) _)); done)) hk7
  clear hk7
  go_wp2
  go_ret
  exact ⟨rfl, by rw [← HAB.out]; exact Keep.trans HK5.out (HK7.out.mono fun _ _ h => h.elim)⟩

end Go.Proofs.YtjffdimlbppgcaaGreat
