/- Memory: the reference's At, Drop, Turn, Set. -/
import Derived.Test.YtjffdimlbppgcaaGreatMF
set_option linter.unusedVariables false
set_option linter.unusedSimpArgs false
namespace Go.Proofs.YtjffdimlbppgcaaGreat
open Go.RowKit Go.Own

def i64B (f : Int) : Prop := -9223372036854775808 ≤ f ∧ f ≤ 9223372036854775807
theorem allB_free {F : Nat → Bool} {n f P : Nat} (h : f + P ≤ n) : allB F n f P false ↔ ∀ i, f ≤ i → i < f + P → F i = false := by
  constructor
  · intro ha i h1 h2
    have := (ha (i - f) (by omega)).2
    rwa [show f + (i - f) = i by omega] at this
  · intro ha i hi
    exact ⟨by omega, ha (f + i) (by omega) (by omega)⟩
theorem RK.chg {w w' : World} {F F1 : Nat → Bool} {M : Nat → Int} {X x g r cap n : Nat} (h : RK w X x g r cap n F M) (hr : RX w' x g n F1) (hk : Keep (fun z => z = g) w w') : RK w' X x g r cap n F1 M := by
  obtain ⟨C, hg, _⟩ := h.rx.2
  obtain ⟨c2, h2⟩ := h.mt.typ
  exact ⟨(hk.block _ (block_lt h.hX) (typ_ne h.hX hg (by decide))).trans h.hX, hr, h.mt.keep hk (typ_ne h2 hg (by decide)), h.n8⟩
/-- Change of the reference's frames. -/
theorem rchg_any {w : World} {A : Ad} {iv : Value} {P : PS} (f o : Int) (b : Bool) (hf : i64B f) (h : Mx w A iv P) (lk : Lk A.n P) : Calls Tryz.prog 76 #[.pointer (some ⟨A.x, 0, none⟩), .int .i64 f, .int .i64 o, .bool b] w fun e w' => ∃ er : Int, e = .returned (.int .i64 er) ∧
    ((wrE A.n f o ≠ 0 ∧ er = wrE A.n f o ∧ Keep (fun _ => False) w w') ∨ (wrE A.n f o = 0 ∧ ∃ f' o' : Nat, f = f' ∧ o = o' ∧ o' ≤ 8 ∧ f' + 2 ^ o' ≤ A.n ∧
      ((¬ (if b then noF P.F o' f' else blk P.F o' f') ∧ er = 12 ∧ Keep (fun _ => False) w w') ∨ ((if b then noF P.F o' f' else blk P.F o' f') ∧ er = 0 ∧ Mx w' A iv { P with F := if b then addB P.F o' f' else subB P.F o' f' } ∧ Keep (RC A iv) w w')))) := by
  refine (rchange_any f o b h.rk.rx h.rk.n8.2 hf).mono ?_
  rintro e w' (⟨h0, rfl, hk⟩ | ⟨h0, f', o', rfl, rfl, ho, hfo, hfn, h1⟩)
  · exact ⟨_, rfl, .inl ⟨h0, rfl, hk⟩⟩
  · have hall : allB P.F A.n f' (2 ^ o') (!b) ↔ (if b then noF P.F o' f' else blk P.F o' f') := by
      cases b
      · simpa using allB_blk lk.fin
      · simpa [noF] using allB_free hfn
    rcases h1 with ⟨h1, rfl, hk⟩ | ⟨h1, rfl, hr, hk⟩
    · exact ⟨12, rfl, .inr ⟨h0, f', o', rfl, rfl, ho, hfn, .inl ⟨fun e => h1 (hall.mpr e), rfl, hk⟩⟩⟩
    · have hr' : RX w' A.x A.g A.n (if b then addB P.F o' f' else subB P.F o' f') := by
        cases b
        · simpa [putB_false] using hr
        · simpa [putB_true] using hr
      obtain ⟨h3, h4⟩ := h.took (h.rk.chg hr' hk) (hk.mono fun _ _ e => .inl e)
      exact ⟨0, rfl, .inr ⟨h0, f', o', rfl, rfl, ho, hfn, .inr ⟨hall.mp h1, rfl, h3, h4⟩⟩⟩
abbrev KX (X K x : Nat) (w : World) : Prop := w.cell? ⟨X, 0, none⟩ = some (.pointer (some ⟨K, 0, none⟩)) ∧ w.cell? ⟨K, 0, none⟩ = some (.pointer (some ⟨x, 0, none⟩))
set_option maxRecDepth 100000 in
set_option maxHeartbeats 2000000 in
theorem rat_any {w : World} {A : Ad} {iv : Value} {P : PS} (f o is : Int) (hf : i64B f) (h : Mx w A iv P) (lk : Lk A.n P) :
    Calls Tryz.prog 47 #[.pointer (some ⟨A.X, 0, none⟩), .int .i64 f, .int .i64 o, .int .i64 is] w fun e w' => ∃ E P1, e = .returned E ∧ AtR A P f o is E P1 ∧ Mx w' A iv P1 ∧ Keep (RC A iv) w w' := by
  have HM := Lib.hid h
  have HK := Lib.hid lk
  have x0 := (cells4 h.hX).1
  have k0 := (cell2b h.rk.hX).1
  have hcase : (decide (is < 1) = true) ∨ (decide (is < 1) = false ∧ decide (5 < is) = true) ∨ (decide (is < 1) = false ∧ decide (5 < is) = false) := by
    simp only [decide_eq_true_eq, decide_eq_false_iff_not]; omega
  have HF := Lib.hid hf
  clear h lk hf
  rcases hcase with t0 | ⟨t0, t1⟩ | ⟨t0, t1⟩
  · have HI : Hid (is < 1 ∨ 5 < is) := .inl (by simpa using t0)
    go_enter Tryz.func47, Tryz.ntmps47
    go_wp2
    go_ret
    exact ⟨.int .i64 2, P, rfl, .inl ⟨HI.out, rfl, rfl⟩, HM.out, Keep.refl _ _⟩
  · have HI : Hid (is < 1 ∨ 5 < is) := .inr (by simpa using t1)
    go_enter Tryz.func47, Tryz.ntmps47
    go_wp2
    go_ret
    exact ⟨.int .i64 2, P, rfl, .inl ⟨HI.out, rfl, rfl⟩, HM.out, Keep.refl _ _⟩
  have HI : Hid (1 ≤ is ∧ is ≤ 5) := by
    simp only [decide_eq_false_iff_not] at t0 t1
    unfold Hid; omega
  go_enter Tryz.func47, Tryz.ntmps47
  go_wp2_with fail
  refine (rchg_any f o false HF.out (HM.out.keep0 (by (repeat (first | exact Keep.refl _ _ | exact Keep.refl _ _ | refine Keep.drew ?_ | refine Keep.drewN ?_ _ | refine Keep.alloc ?_ _ | refine Keep.setNew ?_ (by omega) _)); done)) HK.out).mono ?_
  rintro e w5 ⟨er, rfl, ⟨hw, rfl, hk⟩ | ⟨hw, f', o', rfl, rfl, ho, hfn, ⟨hb, rfl, hk⟩ | ⟨hb, rfl, hm5, hk⟩⟩⟩
  · have HW := Lib.hid hw
    have HK5 : Hid (Keep (fun _ => False) w w5) := Keep.trans (by (repeat (first | exact Keep.refl _ _ | exact Keep.refl _ _ | refine Keep.drew ?_ | refine Keep.drewN ?_ _ | refine Keep.alloc ?_ _ | refine Keep.setNew ?_ (by omega) _)); done) hk
    have t0' : (wrE A.n f o == 0) = false := by simpa using hw
    clear hw hk x0 k0
    obtain ⟨z, hz⟩ : ∃ z, wrE A.n f o = z := ⟨_, rfl⟩
    have HZ := Lib.hid hz
    rw [hz] at t0' ⊢
    clear hz
    go_wp2
    go_ret
    exact ⟨.int .i64 z, P, rfl, .inr (.inl ⟨HI.out, HW.out, by rw [HZ.out], rfl⟩), HM.out.keep0 HK5.out, HK5.out.mono fun _ _ h => h.elim⟩
  · have HW := Lib.hid (And.intro hw hb)
    have HK5 : Hid (Keep (fun _ => False) w w5) := Keep.trans (by (repeat (first | exact Keep.refl _ _ | exact Keep.refl _ _ | refine Keep.drew ?_ | refine Keep.drewN ?_ _ | refine Keep.alloc ?_ _ | refine Keep.setNew ?_ (by omega) _)); done) hk
    clear hw hk x0 k0 hb
    go_wp2
    go_ret
    exact ⟨.int .i64 12, P, rfl, .inr (.inr ⟨HI.out, HW.out.1, f', o', rfl, rfl, .inl ⟨by simpa using HW.out.2, rfl, rfl⟩⟩), HM.out.keep0 HK5.out, HK5.out.mono fun _ _ h => h.elim⟩
  · obtain ⟨is, rfl⟩ := Int.eq_ofNat_of_zero_le (show 0 ≤ is by have := HI.out; omega)
    have HI2 : Hid (1 ≤ is ∧ is ≤ 5) := by have := HI.out; unfold Hid; omega
    have HW := Lib.hid (And.intro hw hb)
    have HM5 := Lib.hid hm5
    have HK5 : Hid (Keep (RC A iv) w w5) := Keep.trans (by (repeat (first | exact Keep.refl _ _ | exact Keep.refl _ _ | refine Keep.drew ?_ | refine Keep.drewN ?_ _ | refine Keep.alloc ?_ _ | refine Keep.setNew ?_ (by omega) _)); done) hk
    have HO := Lib.hid (And.intro ho hfn)
    clear hw hb hm5 hk ho hfn x0 k0
    go_wp2_with (go_at_call 74; refine (rgiven_ok (HM5.out.keep0 (by (repeat (first | exact Keep.refl _ _ | exact Keep.refl _ _ | refine Keep.drew ?_ | refine Keep.drewN ?_ _ | refine Keep.alloc ?_ _ | refine Keep.setNew ?_ (by omega) _)); done)) HO.out.1 HO.out.2).mono ?_; rintro e w7 ⟨rfl, hm7, hk7⟩; have HM7 := Lib.hid hm7; have HK7 := Lib.hid (rc_given HK5.out (Keep.trans (S := RC A iv) (by (repeat (first | exact Keep.refl _ _ | exact Keep.refl _ _ | refine Keep.drew ?_ | refine Keep.drewN ?_ _ | refine Keep.alloc ?_ _ | refine Keep.setNew ?_ (by omega) _)); done) hk7)); clear hm7 hk7)
    go_ret
    refine ⟨.int .i64 0, _, rfl, .inr (.inr ⟨HI.out, HW.out.1, f', o', rfl, rfl, .inr ⟨by simpa using HW.out.2, rfl, rfl⟩⟩), ?_, HK7.out⟩
    have h := HM7.out
    simp only [Bool.false_eq_true, if_false] at h
    have h2 : Mx w7 A iv (gvnX { P with F := subB P.F o' f', M := P.M } f' o' is) := h
    rw [gvn_eq _ _ _ _ _ _ HI2.out.1] at h2
    exact h2
set_option maxRecDepth 100000 in
set_option maxHeartbeats 2000000 in
theorem rdrop_any {w : World} {A : Ad} {iv : Value} {P : PS} (f o : Int) (hf : i64B f) (h : Mx w A iv P) (lk : Lk A.n P) :
    Calls Tryz.prog 48 #[.pointer (some ⟨A.X, 0, none⟩), .int .i64 f, .int .i64 o] w fun e w' => ∃ E P1, e = .returned E ∧ DrR A P f o E P1 ∧ Mx w' A iv P1 ∧ Keep (RC A iv) w w' := by
  have HM := Lib.hid h
  have HK := Lib.hid lk
  have x0 := (cells4 h.hX).1
  have k0 := (cell2b h.rk.hX).1
  have HF := Lib.hid hf
  clear h lk hf
  go_enter Tryz.func48, Tryz.ntmps48
  go_wp2_with fail
  refine (rchg_any f o true HF.out (HM.out.keep0 (by (repeat (first | exact Keep.refl _ _ | exact Keep.refl _ _ | refine Keep.drew ?_ | refine Keep.drewN ?_ _ | refine Keep.alloc ?_ _ | refine Keep.setNew ?_ (by omega) _)); done)) HK.out).mono ?_
  rintro e w5 ⟨er, rfl, ⟨hw, rfl, hk⟩ | ⟨hw, f', o', rfl, rfl, ho, hfn, ⟨hb, rfl, hk⟩ | ⟨hb, rfl, hm5, hk⟩⟩⟩
  · have HW := Lib.hid hw
    have HK5 : Hid (Keep (fun _ => False) w w5) := Keep.trans (by (repeat (first | exact Keep.refl _ _ | exact Keep.refl _ _ | refine Keep.drew ?_ | refine Keep.drewN ?_ _ | refine Keep.alloc ?_ _ | refine Keep.setNew ?_ (by omega) _)); done) hk
    have t0' : (wrE A.n f o == 0) = false := by simpa using hw
    clear hw hk x0 k0
    obtain ⟨z, hz⟩ : ∃ z, wrE A.n f o = z := ⟨_, rfl⟩
    have HZ := Lib.hid hz
    rw [hz] at t0' ⊢
    clear hz
    go_wp2
    go_ret
    exact ⟨.int .i64 z, P, rfl, .inl ⟨HW.out, by rw [HZ.out], rfl⟩, HM.out.keep0 HK5.out, HK5.out.mono fun _ _ h => h.elim⟩
  · have HW := Lib.hid (And.intro hw hb)
    have HK5 : Hid (Keep (fun _ => False) w w5) := Keep.trans (by (repeat (first | exact Keep.refl _ _ | exact Keep.refl _ _ | refine Keep.drew ?_ | refine Keep.drewN ?_ _ | refine Keep.alloc ?_ _ | refine Keep.setNew ?_ (by omega) _)); done) hk
    clear hw hk x0 k0 hb
    go_wp2
    go_ret
    exact ⟨.int .i64 12, P, rfl, .inr ⟨HW.out.1, f', o', rfl, rfl, .inl ⟨by simpa using HW.out.2, rfl, rfl⟩⟩, HM.out.keep0 HK5.out, HK5.out.mono fun _ _ h => h.elim⟩
  · have HW := Lib.hid (And.intro hw hb)
    have HM5 := Lib.hid hm5
    have HK5 : Hid (Keep (RC A iv) w w5) := Keep.trans (by (repeat (first | exact Keep.refl _ _ | exact Keep.refl _ _ | refine Keep.drew ?_ | refine Keep.drewN ?_ _ | refine Keep.alloc ?_ _ | refine Keep.setNew ?_ (by omega) _)); done) hk
    have HO := Lib.hid (And.intro ho hfn)
    clear hw hb hm5 hk ho hfn x0 k0
    go_wp2_with (go_at_call 74; refine (rgiven_ok (is := 0) (HM5.out.keep0 (by (repeat (first | exact Keep.refl _ _ | exact Keep.refl _ _ | refine Keep.drew ?_ | refine Keep.drewN ?_ _ | refine Keep.alloc ?_ _ | refine Keep.setNew ?_ (by omega) _)); done)) HO.out.1 HO.out.2).mono ?_; rintro e w7 ⟨rfl, hm7, hk7⟩; have HM7 := Lib.hid hm7; have HK7 := Lib.hid (rc_given HK5.out (Keep.trans (S := RC A iv) (by (repeat (first | exact Keep.refl _ _ | exact Keep.refl _ _ | refine Keep.drew ?_ | refine Keep.drewN ?_ _ | refine Keep.alloc ?_ _ | refine Keep.setNew ?_ (by omega) _)); done) hk7)); clear hm7 hk7)
    go_ret
    refine ⟨.int .i64 0, _, rfl, .inr ⟨HW.out.1, f', o', rfl, rfl, .inr ⟨by simpa using HW.out.2, rfl, rfl⟩⟩, ?_, HK7.out⟩
    have h := HM7.out
    simpa [gvnX] using h

set_option maxRecDepth 100000 in
set_option maxHeartbeats 2000000 in
theorem rturn_any {w : World} {A : Ad} {iv : Value} {P : PS} (f n a b : Int) (h : Mx w A iv P) (lk : Lk A.n P) (hB : A.B ≤ w.heap.size) :
    Calls Tryz.prog 50 #[.pointer (some ⟨A.X, 0, none⟩), .int .i64 f, .int .i64 n, .int .i64 a, .int .i64 b] w fun e w' => ∃ E P1 iv', e = .returned E ∧ TuR P f n a b E P1 ∧ Mx w' A iv' P1 ∧ Keep (RC A iv) w w' ∧ (∀ z, iv'.ownBlock = some z → iv.ownBlock = some z ∨ w.heap.size ≤ z) := by
  obtain ⟨g2, cap2, rfl, -, -⟩ := h.form
  have HM := Lib.hid h
  have HK := Lib.hid lk
  obtain ⟨x0, x1, x2, x3⟩ := cells4 h.hX
  have hcase : (a = 0) ∨ (a ≠ 0 ∧ b = 0) ∨ (a ≠ 0 ∧ b ≠ 0) := by omega
  have HB := Lib.hid hB
  clear h lk hB
  rcases hcase with ha | ⟨ha, hb⟩ | ⟨ha, hb⟩
  · have t0 : (a == 0) = true := by simpa using ha
    have HA := Lib.hid ha
    clear ha
    go_enter Tryz.func50, Tryz.ntmps50
    go_wp2
    go_ret
    exact ⟨.int .i64 2, P, _, rfl, .inl ⟨.inl HA.out, rfl, rfl⟩, HM.out, Keep.refl _ _, fun _ h => .inl h⟩
  · have t0 : (a == 0) = false := by simpa using ha
    have t1 : (b == 0) = true := by simpa using hb
    have HA := Lib.hid hb
    clear ha hb
    go_enter Tryz.func50, Tryz.ntmps50
    go_wp2
    go_ret
    exact ⟨.int .i64 2, P, _, rfl, .inl ⟨.inr HA.out, rfl, rfl⟩, HM.out, Keep.refl _ _, fun _ h => .inl h⟩
  · have t0 : (a == 0) = false := by simpa using ha
    have t1 : (b == 0) = false := by simpa using hb
    have HA : Hid (¬ (a = 0 ∨ b = 0)) := by unfold Hid; omega
    clear ha hb
    have HNW := heap_alloc_new w (.cells #[.slice none 0 0] 67)
    have n0 : (w.alloc (.cells #[.slice none 0 0] 67)).cell? ⟨w.heap.size, 0, none⟩ = some (.slice none 0 0) := by simp [cell_block HNW]
    have n1 : (w.alloc (.cells #[.slice none 0 0] 67)).frozen? ⟨w.heap.size, 0, none⟩ = false := frozen_block HNW
    go_enter Tryz.func50, Tryz.ntmps50
    go_wp2_with fail
    clear n0 n1 HNW x0 x1 x2 x3
    have HW1 := heap_alloc_new w (.cells #[.slice (some ⟨g2, 0, none⟩) A.n cap2] 67)
    have k1 : Keep (fun _ => False) w (w.alloc (.cells #[.slice (some ⟨g2, 0, none⟩) A.n cap2] 67)) := (Keep.refl _ _).alloc _
    have hgl : g2 < w.heap.size := by obtain ⟨⟨c3, h3⟩, _⟩ := own_typ3 HM.out.ri (z := g2) rfl; exact block_lt h3
    obtain ⟨p, hp⟩ : ∃ p, w.heap.size = p := ⟨_, rfl⟩
    rw [hp] at HW1 ⊢
    generalize w.alloc (.cells #[.slice (some ⟨g2, 0, none⟩) A.n cap2] 67) = w1 at HW1 k1 ⊢
    have HM1 := HM.out.keep0 k1
    have hR : Fr.RepR w1 A.B p (.slice (some ⟨g2, 0, none⟩) A.n cap2) P.L := ⟨HW1, by rw [HK.out.ln]; exact HM1.ri, by simp [Value.ownBlock]; omega, by rw [HK.out.ln]; exact HM.out.rk.n8.1, by rw [HK.out.ln]; exact HM.out.rk.n8.2, HK.out.st⟩
    have HK1 := Lib.hid k1
    have HPP := Lib.hid hp
    have HGL := Lib.hid hgl
    have HM1' := Lib.hid HM1
    refine (Fr.rturn_any A.B p _ P.L f n a b w1 (Nat.le_trans HB.out k1.size) hR).mono ?_
    clear HM1 hR k1 hgl HW1 hp
    rintro e w6 ⟨rfl, hk6, v', hR6, hv6⟩
    have HK6 := Lib.hid hk6
    have HR6 := Lib.hid hR6
    have HV6 := Lib.hid hv6
    have HXL : Hid (A.X < p) := by have := block_lt HM.out.hX; have := HPP.out; unfold Hid; omega
    have HX6 := Lib.hid ((HK6.out.block A.X (block_lt HM1'.out.hX) (by have := HXL.out; omega)).trans HM1'.out.hX)
    obtain ⟨x0, x1, x2, x3⟩ := cells4 HX6.out
    have fz : w6.frozen? ⟨A.X, 2, none⟩ = false := frozen_block HX6.out
    have p0 : w6.cell? ⟨p, 0, none⟩ = some v' := by simp [cell_block HR6.out.hp]
    obtain ⟨g4, cap4, rfl, -⟩ := HR6.out.form
    clear hk6 hR6 hv6
    go_wp2
    go_ret
    have hz := HPP.out
    have K6 : Keep (fun _ => False) w w6 := by
      refine ⟨HK6.out.os.trans HK1.out.os, HK6.out.tape.trans HK1.out.tape, HK6.out.output.trans HK1.out.output, Nat.le_trans HK1.out.size HK6.out.size, fun z hz' _ => ?_⟩
      rw [HK6.out.block z (Nat.lt_of_lt_of_le hz' HK1.out.size) (by omega)]
      exact HK1.out.block z hz' id
    have HM6 := HM.out.keep0 K6
    have hvb : ∀ z, (Value.slice (some ⟨g4, 0, none⟩) (Fr.turnL P.L f n a b).length cap4).ownBlock = some z → (Value.slice (some ⟨g2, 0, none⟩) A.n cap2).ownBlock = some z ∨ w.heap.size ≤ z := fun z e => (HV6.out z e).imp id fun h => Nat.le_trans HK1.out.size h
    have hln : (Fr.turnL P.L f n a b).length = A.n := by
      unfold Fr.turnL
      split
      · rw [Fr.fillN_length]; exact HM.out.ln
      · exact HM.out.ln
    have KX : Keep (fun z => z = A.X) w6 (w6.setCell ⟨A.X, 2, none⟩ (.slice (some ⟨g4, 0, none⟩) (Fr.turnL P.L f n a b).length cap4)) := (Keep.refl (fun z => z = A.X) w6).setCell (p := ⟨A.X, 2, none⟩) (fun _ => rfl) _
    obtain ⟨CG, tg, _⟩ := HM6.rk.rx.2
    obtain ⟨c6, t6⟩ := HM6.rk.mt.typ
    obtain ⟨c7, t7⟩ := HM6.rw.mg.typ
    refine ⟨_, { P with L := Fr.turnL P.L f n a b }, _, rfl, .inr ⟨HA.out, rfl, rfl⟩, ⟨by rw [heap_setCell_eq HX6.out]; simp, HM6.rk.keep KX ?_, HM6.rw.keep KX (typ_ne HM6.rw.hx HX6.out (by decide)) (typ_ne t7 HX6.out (by decide)), ?_, hln, ?_, HM6.bx⟩, (K6.mono fun _ _ h => h.elim).trans (KX.mono fun z _ e => .inr (.inr (.inl e))), hvb⟩
    · rintro z rfl
      exact ⟨typ_ne HX6.out HM6.rk.hX (by decide), typ_ne HX6.out HM6.rk.rx.1 (by decide), typ_ne HX6.out tg (by decide), typ_ne HX6.out t6 (by decide)⟩
    · have h := HR6.out.hv
      have h2 := KX.own h (by
        intro z hz e
        obtain ⟨⟨c3, h3⟩, _⟩ := own_typ3 h hz
        exact typ_ne h3 HX6.out (by decide) e)
      rw [hln] at h2
      rw [hln]
      exact h2
    · intro z hz
      rcases hvb z hz with h | h
      · exact HM.out.ne z h
      · obtain ⟨c8, t8⟩ := HM.out.rk.mt.typ
        have := block_lt t8
        omega
theorem rkset_any {w : World} {A : Ad} {iv : Value} {P : PS} (i y : Int) (h : Mx w A iv P) :
    Calls Tryz.prog 52 #[.pointer (some ⟨A.K, 0, none⟩), .int .i64 i, .int .i64 y] w fun e w' => ∃ E P1, e = .returned E ∧ SeR A P i y E P1 ∧ Mx w' A iv P1 ∧ Keep (RC A iv) w w' := by
  by_cases h1 : i < 0 ∨ (sec A.n : Int) ≤ i
  · refine (rset_range i y h.rk h1).mono ?_
    rintro e w1 ⟨rfl, rfl⟩
    exact ⟨_, P, rfl, .inl ⟨h1, rfl, rfl⟩, h, Keep.refl _ _⟩
  by_cases h2 : y < 0 ∨ 3 < y
  · refine (rset_arg i y h.rk (by omega) h2).mono ?_
    rintro e w1 ⟨rfl, rfl⟩
    exact ⟨_, P, rfl, .inr (.inl ⟨by omega, h2, rfl, rfl⟩), h, Keep.refl _ _⟩
  obtain ⟨i, rfl⟩ := Int.eq_ofNat_of_zero_le (show 0 ≤ i by omega)
  refine (rset_ok i y h.rk (by omega) (by omega)).mono ?_
  rintro e w1 ⟨rfl, rk, hk⟩
  obtain ⟨h3, h4⟩ := h.took rk (hk.mono fun _ _ e => .inr e)
  exact ⟨_, _, rfl, .inr (.inr ⟨by omega, by omega, rfl, rfl⟩), by simpa using h3, h4⟩
theorem rstore_any {w : World} {A : Ad} {iv : Value} {P : PS} (i v : Nat) (h : Mx w A iv P) (hi : i < 8 * A.n) :
    Calls Tryz.prog 54 #[.pointer (some ⟨A.W, 0, none⟩), .int .i64 ((8 * i : Nat) : Int), .int .u64 (v : Int)] w fun e w' => ∃ E P1, e = .returned E ∧ (E = .int .i64 0 ∧ P1 = { P with W := setW P.W i v }) ∧ Mx w' A iv P1 ∧ Keep (RC A iv) w w' := by
  refine (wstore_ok h.rw hi).mono ?_
  rintro e w' ⟨rfl, hr, hk⟩
  exact ⟨_, _, rfl, ⟨rfl, rfl⟩, h.zero hr hk, hk.mono fun z _ e => .inr (.inl e)⟩

end Go.Proofs.YtjffdimlbppgcaaGreat
