/- Memory: the reference's Block, At, Drop, Turn, Set. -/
import Derived.Test.YtjffdimlbppgcaaGreatME
set_option linter.unusedVariables false
set_option linter.unusedSimpArgs false
namespace Go.Proofs.YtjffdimlbppgcaaGreat
open Go.RowKit Go.Own

theorem rbad_cases {o x is : Int} (h : badB o x is) : (decide (o < 0) = true) ∨ (decide (o < 0) = false ∧ decide (8 < o) = true) ∨ (decide (o < 0) = false ∧ decide (8 < o) = false ∧ decide (x < 0) = true) ∨ (decide (o < 0) = false ∧ decide (8 < o) = false ∧ decide (x < 0) = false ∧ decide (2 < x) = true) ∨
    (decide (o < 0) = false ∧ decide (8 < o) = false ∧ decide (x < 0) = false ∧ decide (2 < x) = false ∧ decide (is < 1) = true) ∨ (decide (o < 0) = false ∧ decide (8 < o) = false ∧ decide (x < 0) = false ∧ decide (2 < x) = false ∧ decide (is < 1) = false ∧ decide (5 < is) = true) := by
  unfold badB at h
  simp only [decide_eq_true_eq, decide_eq_false_iff_not]
  omega
set_option maxHeartbeats 1000000 in
theorem rblock_bad (X : Nat) (o x is : Int) (h : badB o x is) (w : World) : Calls Tryz.prog 45 #[.pointer (some ⟨X, 0, none⟩), .int .i64 o, .int .i64 x, .int .i64 is] w fun e w' => e = .returned (.tuple #[.int .i64 0, .int .i64 2]) ∧ w' = w := by
  rcases rbad_cases h with t0 | ⟨t0, t1⟩ | ⟨t0, t1, t2⟩ | ⟨t0, t1, t2, t3⟩ | ⟨t0, t1, t2, t3, t4⟩ | ⟨t0, t1, t2, t3, t4, t5⟩
  all_goals
    clear h
    go_enter Tryz.func45, Tryz.ntmps45
    go_wp2
    go_ret2
    exact ⟨rfl, rfl⟩
theorem rc_given {w w' w1 : World} {A : Ad} {iv : Value} (h : Keep (RC A iv) w w') (k : Keep (RC A iv) w' w1) : Keep (RC A iv) w w1 := h.trans k
theorem gvn_eq (P : PS) (a o is : Nat) (F : Nat → Bool) (M : Nat → Int) (h : 1 ≤ is) : gvnX { P with F := F, M := M } a o is = gvn P a o is F M := by
  unfold gvnX gvn
  rw [if_neg (by omega)]

set_option maxRecDepth 100000 in
set_option maxHeartbeats 2000000 in
theorem rblock_any {w : World} {A : Ad} {iv : Value} {P : PS} (o x is : Int) (h : Mx w A iv P) (lk : Lk A.n P) (hmk : A.mark ≤ A.n) :
    Calls Tryz.prog 45 #[.pointer (some ⟨A.X, 0, none⟩), .int .i64 o, .int .i64 x, .int .i64 is] w fun e w' => ∃ E P1, e = .returned E ∧ BlkR A P o x is E P1 ∧ Mx w' A iv P1 ∧ Keep (RC A iv) w w' := by
  by_cases hbad : badB o x is
  · refine (rblock_bad A.X o x is hbad w).mono ?_
    rintro e w' ⟨rfl, rfl⟩
    exact ⟨_, P, rfl, .inl ⟨hbad, rfl, rfl⟩, h, Keep.refl _ _⟩
  have hb := hbad
  unfold badB at hb
  obtain ⟨q, rfl⟩ := Int.eq_ofNat_of_zero_le (show 0 ≤ o by omega)
  obtain ⟨is, rfl⟩ := Int.eq_ofNat_of_zero_le (show 0 ≤ is by omega)
  have hq8 : q ≤ 8 := by omega
  have hx : x = 0 ∨ x = 1 ∨ x = 2 := by omega
  have his : 1 ≤ is ∧ is ≤ 5 := by omega
  have t0 : decide ((q : Int) < 0) = false := by simp
  have t1 : decide ((8 : Int) < (q : Int)) = false := by simp; omega
  have t1n : decide (8 < q) = false := by simp; omega
  have t2 : decide (x < 0) = false := by simp; omega
  have t3 : decide (2 < x) = false := by simp; omega
  have t5 : decide ((is : Int) < 1) = false := by simp; omega
  have t5n : decide (is < 1) = false := by simp; omega
  have t6 : decide ((5 : Int) < (is : Int)) = false := by simp; omega
  have t6n : decide (5 < is) = false := by simp; omega
  obtain ⟨p, hp⟩ : ∃ p, 2 ^ q = p := ⟨_, rfl⟩
  obtain ⟨s, hs⟩ : ∃ s, spr A P = s := ⟨_, rfl⟩
  have HSZ : Hid (∀ W, Calls Tryz.prog 16 #[.int .i64 (q : Int)] W fun e w' => e = .returned (.int .i64 (p : Int)) ∧ w' = W) := fun W => size_p q p hq8 hp W
  have HM := Lib.hid h
  have HK := Lib.hid lk
  have HC := Lib.hid (And.intro hq8 (And.intro hx his))
  have HP := Lib.hid hp
  have HSP := Lib.hid hs
  have HSPA : Hid (∀ W, Keep (fun _ => False) w W → Calls Tryz.prog 31 #[.pointer (some ⟨A.X, 0, none⟩)] W fun e w' => e = .returned (.int .i64 (s : Int)) ∧ Keep (fun _ => False) W w') := fun W k => by
    rw [← hs]; exact rspare_any (h.keep0 k) hmk
  have HBAD := Lib.hid hbad
  have HX0 : Hid (w.cell? ⟨A.X, 0, none⟩ = some (.pointer (some ⟨A.K, 0, none⟩))) := (cells4 h.hX).1
  have hcase : s < p ∨ p ≤ s := by omega
  clear h lk hbad hb hq8 hx his hp hs hmk
  rcases hcase with hc | hc
  · have t4 : decide ((s : Int) < (p : Int)) = true := by simp; omega
    have t4n : decide (s < p) = true := by simp; omega
    have HCC := Lib.hid hc
    clear hc
    go_enter Tryz.func45, Tryz.ntmps45
    go_wp2_with (first | (go_at_call 31; refine (HSPA.out _ (by (repeat (first | exact Keep.refl _ _ | exact Keep.refl _ _ | refine Keep.drew ?_ | refine Keep.drewN ?_ _ | refine Keep.alloc ?_ _ | refine Keep.setNew ?_ (by omega) _)); done)).mono ?_; rintro e w5 ⟨rfl, hk5⟩; have HK5 : Hid (Keep (fun _ => False) w w5) := Keep.trans (by (repeat (first | exact Keep.refl _ _ | exact Keep.refl _ _ | refine Keep.drew ?_ | refine Keep.drewN ?_ _ | refine Keep.alloc ?_ _ | refine Keep.setNew ?_ (by omega) _)); done) hk5; clear hk5) | (go_at_call 16; refine (HSZ.out _).mono ?_; rintro e w7 ⟨rfl, rfl⟩))
    go_ret2
    exact ⟨_, P, rfl, .inr (.inl ⟨HBAD.out, by rw [HSP.out]; simpa [HP.out] using HCC.out, rfl, rfl⟩), HM.out.keep0 (by (repeat (first | exact HK5.out | exact Keep.refl _ _ | refine Keep.drew ?_ | refine Keep.drewN ?_ _ | refine Keep.alloc ?_ _ | refine Keep.setNew ?_ (by omega) _)); done), Keep.mono (S := fun _ => False) (by (repeat (first | exact HK5.out | exact Keep.refl _ _ | refine Keep.drew ?_ | refine Keep.drewN ?_ _ | refine Keep.alloc ?_ _ | refine Keep.setNew ?_ (by omega) _)); done) fun _ _ h => h.elim⟩
  · have t4 : decide ((s : Int) < (p : Int)) = false := by simp; omega
    have t4n : decide (s < p) = false := by simp; omega
    have HCC := Lib.hid hc
    clear hc
    go_enter Tryz.func45, Tryz.ntmps45
    go_wp2_with (first | (go_at_call 31; refine (HSPA.out _ (by (repeat (first | exact Keep.refl _ _ | exact Keep.refl _ _ | refine Keep.drew ?_ | refine Keep.drewN ?_ _ | refine Keep.alloc ?_ _ | refine Keep.setNew ?_ (by omega) _)); done)).mono ?_; rintro e w5 ⟨rfl, hk5⟩; have HK5 : Hid (Keep (fun _ => False) w w5) := Keep.trans (by (repeat (first | exact Keep.refl _ _ | exact Keep.refl _ _ | refine Keep.drew ?_ | refine Keep.drewN ?_ _ | refine Keep.alloc ?_ _ | refine Keep.setNew ?_ (by omega) _)); done) hk5; have x0 := (HK5.out.cell (block_lt_cell HX0.out) id).trans HX0.out; clear hk5) | (go_at_call 16; refine (HSZ.out _).mono ?_; rintro e w7 ⟨rfl, rfl⟩) | fail)
    have HM5 := Lib.hid (HM.out.keep0 HK5.out)
    refine (rtake_any q x (HM5.out.keep0 (by (repeat (first | exact Keep.refl _ _ | exact Keep.refl _ _ | refine Keep.drew ?_ | refine Keep.drewN ?_ _ | refine Keep.alloc ?_ _ | refine Keep.setNew ?_ (by omega) _)); done)).rk HK.out.fin HC.out.1 HC.out.2.1).mono ?_
    rintro e w6 ⟨D, hD, ⟨ht, rfl, hk6⟩ | ⟨y, own, ht, rfl, rk6, hk6⟩⟩
    · have HK6 := Lib.hid (HK5.out.trans (Keep.trans (by (repeat (first | exact Keep.refl _ _ | exact Keep.refl _ _ | refine Keep.drew ?_ | refine Keep.drewN ?_ _ | refine Keep.alloc ?_ _ | refine Keep.setNew ?_ (by omega) _)); done) hk6))
      have HT := Lib.hid (And.intro hD ht)
      clear hD ht hk6 x0
      go_wp2
      go_ret2
      exact ⟨_, P, rfl, .inr (.inr ⟨HBAD.out, by rw [HSP.out]; have := HCC.out; simp [HP.out]; omega, D, HT.out.1, .inl ⟨HT.out.2, rfl, rfl⟩⟩), HM.out.keep0 HK6.out, HK6.out.mono fun _ _ h => h.elim⟩
    · obtain ⟨⟨a, k, rfl, hk8', hak, hbk, hend⟩, hok⟩ := tkP_fine hD HK.out.fin ht
      simp only [Int.toNat_natCast] at rk6
      have hle : 2 ^ q ≤ 2 ^ k := Nat.pow_le_pow_right (by decide) (by simpa using hok)
      obtain ⟨hm6, hpc6⟩ := Mx.took (HM5.out.keep0 (by (repeat (first | exact Keep.refl _ _ | exact Keep.refl _ _ | refine Keep.drew ?_ | refine Keep.drewN ?_ _ | refine Keep.alloc ?_ _ | refine Keep.setNew ?_ (by omega) _)); done)) rk6 hk6
      have HM6 := Lib.hid hm6
      have HPC6 : Hid (Keep (RC A iv) w w6) := (HK5.out.mono fun _ _ h => h.elim).trans (Keep.trans (by (repeat (first | exact Keep.refl _ _ | exact Keep.refl _ _ | refine Keep.drew ?_ | refine Keep.drewN ?_ _ | refine Keep.alloc ?_ _ | refine Keep.setNew ?_ (by omega) _)); done) hpc6)
      have HEND : Hid (a + 2 ^ q ≤ A.n) := by unfold Hid; omega
      have HT := Lib.hid (And.intro hD ht)
      clear hD ht hk6 rk6 hm6 hpc6 x0 hk8' hak hbk hend hok hle
      go_wp2_with (go_at_call 74; refine (rgiven_ok (HM6.out.keep0 (by (repeat (first | exact Keep.refl _ _ | exact Keep.refl _ _ | refine Keep.drew ?_ | refine Keep.drewN ?_ _ | refine Keep.alloc ?_ _ | refine Keep.setNew ?_ (by omega) _)); done)) HC.out.1 HEND.out).mono ?_; rintro e w7 ⟨rfl, hm7, hk7⟩; have HM7 := Lib.hid hm7; have HK7 := Lib.hid (rc_given HPC6.out (Keep.trans (S := RC A iv) (by (repeat (first | exact Keep.refl _ _ | exact Keep.refl _ _ | refine Keep.drew ?_ | refine Keep.drewN ?_ _ | refine Keep.alloc ?_ _ | refine Keep.setNew ?_ (by omega) _)); done) hk7)); clear hm7 hk7)
      go_ret2
      refine ⟨_, _, rfl, .inr (.inr ⟨HBAD.out, by rw [HSP.out]; have := HCC.out; simp [HP.out]; omega, D, HT.out.1, .inr ⟨_, own, HT.out.2, rfl, rfl⟩⟩), ?_, HK7.out⟩
      have h := HM7.out
      rw [gvn_eq _ _ _ _ _ _ HC.out.2.2.1] at h
      exact h

end Go.Proofs.YtjffdimlbppgcaaGreat
