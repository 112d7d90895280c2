/- Memory: the reference's calls. -/
import Derived.Test.YtjffdimlbppgcaaGreatMD
set_option linter.unusedVariables false
set_option linter.unusedSimpArgs false
namespace Go.Proofs.YtjffdimlbppgcaaGreat
open Go.RowKit Go.Own

theorem size_p (o P : Nat) (h : o ≤ 8) (hP : 2 ^ o = P) (W : World) : Calls Tryz.prog 16 #[.int .i64 (o : Int)] W fun e w' => e = .returned (.int .i64 (P : Int)) ∧ w' = W := by
  have e : (P : Int) = (2 : Int) ^ o := by rw [← hP]; simp
  rw [e]; exact size_any o h W
section
variable {w w' : World} {A : Ad} {iv : Value} {P : PS}
theorem Mx.form (h : Mx w A iv P) : ∃ g2 cap2, iv = .slice (some ⟨g2, 0, none⟩) A.n cap2 ∧ (∀ i, i < A.n → w.cell? ⟨g2, i, none⟩ = some (.int .i64 (gi P.L i))) ∧ (∀ i, w.frozen? ⟨g2, i, none⟩ = false) := by
  rcases h.ri.2 with ⟨_, h0⟩ | ⟨g, cap, cur, rfl, hB, hg, hc, _⟩
  · have := h.rk.n8.1; omega
  · refine ⟨g, cap, rfl, fun i hi => ?_, fun i => frozen_block hg⟩
    rw [World.ownsRow.cellAt h.ri i (by omega)]
    have := h.ln
    simp [gi, show i < P.L.length by omega]
theorem Mx.setL {g2 cap2 i : Nat} {b : Int} (h : Mx w A (.slice (some ⟨g2, 0, none⟩) A.n cap2) P) : Mx (w.setCell ⟨g2, i, none⟩ (.int .i64 b)) A (.slice (some ⟨g2, 0, none⟩) A.n cap2) { P with L := P.L.set i b } ∧ Keep (fun z => z = g2) w (w.setCell ⟨g2, i, none⟩ (.int .i64 b)) := by
  have k : Keep (fun z => z = g2) w (w.setCell ⟨g2, i, none⟩ (.int .i64 b)) := (Keep.refl (fun z => z = g2) w).setCell (p := ⟨g2, i, none⟩) (fun _ => rfl) _
  obtain ⟨⟨c3, h3⟩, _⟩ := own_typ3 h.ri (z := g2) rfl
  obtain ⟨CG, tg, _⟩ := h.rk.rx.2
  obtain ⟨c6, t6⟩ := h.rk.mt.typ
  obtain ⟨c7, t7⟩ := h.rw.mg.typ
  have hst := (h.ri.stored i (.int .i64 b)).1
  refine ⟨⟨(k.block A.X (block_lt h.hX) (typ_ne h.hX h3 (by decide))).trans h.hX, h.rk.keep k ?_, h.rw.keep k (typ_ne h.rw.hx h3 (by decide)) (typ_ne t7 h3 (by decide)), ?_, ?_, h.ne, h.bx⟩, k⟩
  · rintro z rfl
    exact ⟨typ_ne h3 h.rk.hX (by decide), typ_ne h3 h.rk.rx.1 (by decide), typ_ne h3 tg (by decide), h.ne _ rfl⟩
  · simpa [List.map_set] using hst
  · simpa using h.ln
theorem Mx.zero {W' : Nat → Nat} (h : Mx w A iv P) (hr : RW w' A.W A.wg A.n W') (k : Keep (fun z => z = A.wg) w w') : Mx w' A iv { P with W := W' } := by
  obtain ⟨CG, tg, _⟩ := h.rk.rx.2
  obtain ⟨c6, t6⟩ := h.rk.mt.typ
  obtain ⟨c7, t7⟩ := h.rw.mg.typ
  refine ⟨(k.block A.X (block_lt h.hX) (typ_ne h.hX t7 (by decide))).trans h.hX, h.rk.keep k ?_, hr, k.own h.ri ?_, h.ln, h.ne, h.bx⟩
  · rintro z rfl
    exact ⟨typ_ne t7 h.rk.hX (by decide), typ_ne t7 h.rk.rx.1 (by decide), typ_ne t7 tg (by decide), typ_ne t7 t6 (by decide)⟩
  · intro z hz
    obtain ⟨⟨c3, h3⟩, _⟩ := own_typ3 h.ri hz
    exact typ_ne h3 t7 (by decide)
theorem Mx.took {F' : Nat → Bool} {M' : Nat → Int} (h : Mx w A iv P) (rk : RK w' A.K A.x A.g A.rr A.cap A.n F' M') (k : Keep (fun z => z = A.g ∨ z = A.rr) w w') : Mx w' A iv { P with F := F', M := M' } ∧ Keep (RC A iv) w w' := by
  obtain ⟨CG, tg, _⟩ := h.rk.rx.2
  obtain ⟨c6, t6⟩ := h.rk.mt.typ
  obtain ⟨c7, t7⟩ := h.rw.mg.typ
  have hne : ∀ {b e : Nat} {c : Array Value}, w.heap[b]? = some (.cells c e (0, 0)) → e ≠ 4 ∧ e ≠ 3 → ¬ (b = A.g ∨ b = A.rr) := by
    rintro b e c hb ⟨e1, e2⟩ (rfl | rfl)
    · exact typ_ne hb tg e1 rfl
    · exact typ_ne hb t6 e2 rfl
  refine ⟨⟨(k.block A.X (block_lt h.hX) (hne h.hX (by decide))).trans h.hX, rk, h.rw.keep k (hne h.rw.hx (by decide)) (hne t7 (by decide)), k.own h.ri ?_, h.ln, h.ne, h.bx⟩, k.mono fun z _ e => ?_⟩
  · rintro z hz (e | e)
    · obtain ⟨⟨c3, h3⟩, _⟩ := own_typ3 h.ri hz
      exact typ_ne h3 tg (by decide) e
    · exact h.ne z hz e
  · rcases e with rfl | rfl
    · exact .inl rfl
    · exact .inr (.inr (.inr (.inl rfl)))
end
def gvnX (P : PS) (a o is : Nat) : PS := { P with L := Fr.fillN P.L a (is : Int) (2 ^ o), W := if is = 0 then P.W else zerW P.W a (2 ^ o) }
set_option maxRecDepth 100000 in
set_option maxHeartbeats 2000000 in
theorem rgiven_ok {w : World} {A : Ad} {iv : Value} {P : PS} {f o is : Nat} (h : Mx w A iv P) (ho : o ≤ 8) (hf : f + 2 ^ o ≤ A.n) :
    Calls Tryz.prog 74 #[.pointer (some ⟨A.X, 0, none⟩), .int .i64 (f : Int), .int .i64 (o : Int), .int .i64 (is : Int)] w fun e w' => e = .returned (.tuple #[]) ∧ Mx w' A iv (gvnX P f o is) ∧ Keep (RC A iv) w w' := by
  obtain ⟨g2, cap2, rfl, -, -⟩ := h.form
  have HM := Lib.hid h
  obtain ⟨p, hp⟩ : ∃ p, 2 ^ o = p := ⟨_, rfl⟩
  have HSZ : Hid (∀ W, Calls Tryz.prog 16 #[.int .i64 (o : Int)] W fun e w' => e = .returned (.int .i64 (p : Int)) ∧ w' = W) := fun W => size_p o p ho hp W
  have HP := Lib.hid hp
  have hp1 := (pw o ho).1
  rw [hp] at hf hp1
  have HF := Lib.hid (And.intro hp1 hf)
  have HN : Hid (A.n ≤ 1024) := h.rk.n8.2
  clear h hp hf ho hp1
  go_enter Tryz.func74, Tryz.ntmps74
  go_wp2
  go_loopw [8] (fun i wr => ∃ j : Nat, j ≤ p ∧ i = .int .i64 (j : Int) ∧ Mx wr A (.slice (some ⟨g2, 0, none⟩) A.n cap2) { P with L := Fr.fillN P.L f (is : Int) j } ∧ Keep (fun z => z = g2) w wr) (fun i _ => p - (intOf i).toNat)
  case atStart => exact ⟨0, Nat.zero_le _, rfl, HM.out, Keep.refl _ _⟩
  case round =>
    obtain ⟨j, hj, rfl, hm, hk⟩ := hrel
    have HMJ := Lib.hid hm
    have HKJ := Lib.hid hk
    obtain ⟨z0, z1, z2, z3⟩ := cells4 hm.hX
    obtain ⟨g3, cap3, he, hc, hfz⟩ := hm.form
    injection he with he1 he2 he3
    injection he1 with he1
    injection he1 with he1
    subst he1
    clear hm hk he2 he3
    by_cases hlt : j < p
    · have i1 : (j : Int) < p := by omega
      obtain ⟨z, hz⟩ : ∃ z, f + j = z := ⟨_, rfl⟩
      have hn := HN.out
      have hfn := HF.out.2
      have e7 : IntKind.i64.wrap ((f : Int) + (j : Int)) = (z : Int) := (IntWalk.i64_in _ (by omega)).trans (by omega)
      have e8 : IntKind.i64.wrap ((j : Int) + 1) = (j : Int) + 1 := IntWalk.i64_in _ (by omega)
      have i2 : (z : Int) < A.n := by omega
      have hcz := hc z (by omega)
      have hfzz := hfz z
      have HZ := Lib.hid hz
      clear hc hfz hn hfn hz
      go_wp2_with (go_at_call 16; refine (HSZ.out _).mono ?_; rintro e w5 ⟨rfl, rfl⟩)
      go_roundw
      case rel =>
        refine ⟨j + 1, by omega, by go_num, ?_, ?_⟩
        · have h := (HMJ.out.setL (i := z) (b := (is : Int))).1
          rw [← HZ.out] at h
          rw [← HZ.out]
          exact h
        · exact HKJ.out.setCell (fun _ => rfl) _
      case measure => simp [intOf]; omega
    · obtain rfl : j = p := by omega
      clear hlt hc hfz
      rcases Nat.eq_zero_or_pos is with h0 | h0
      · have HI := Lib.hid h0
        subst h0
        go_wp2_with (go_at_call 16; refine (HSZ.out _).mono ?_; rintro e w5 ⟨rfl, rfl⟩)
        go_end0
        refine ⟨rfl, ?_, HKJ.out.mono fun z _ e => .inr (.inr (.inr (.inr (by simp [Value.ownBlock, e]))))⟩
        unfold gvnX
        rw [HP.out, if_pos rfl]
        exact HMJ.out
      · have t0 : ((is : Int) == 0) = false := by simp; omega
        have t1 : ((is : Int) != 0) = true := by simp; omega
        have HI := Lib.hid h0
        clear h0
        go_wp2_with (go_at_call 16; refine (HSZ.out _).mono ?_; rintro e w5 ⟨rfl, rfl⟩)
        have HZ0 : Hid (w5.cell? ⟨A.X, 1, none⟩ = some (.pointer (some ⟨A.W, 0, none⟩))) := z1
        go_region_held3 (fun w' => w'.cell? ⟨A.X, 1, none⟩ = some (.pointer (some ⟨A.W, 0, none⟩)))
          (first | exact HZ6.out | exact HZ0.out)
          (first | (go_at_call 16; refine (HSZ.out _).mono ?_; rintro e w7 ⟨rfl, rfl⟩)
                 | (go_at_call 93; refine (wzero_ok (HMJ.out.keep0 (by (repeat (first | exact Keep.refl _ _ | exact Keep.refl _ _ | refine Keep.drew ?_ | refine Keep.drewN ?_ _ | refine Keep.alloc ?_ _ | refine Keep.setNew ?_ (by omega) _)); done)).rw HF.out.1 HF.out.2).mono ?_; rintro e w6 ⟨rfl, hr6, hk6⟩; have HR6 := Lib.hid hr6; have HK6 : Hid (Keep (fun z => z = A.wg) w5 w6) := Keep.trans (by (repeat (first | exact Keep.refl _ _ | exact Keep.refl _ _ | refine Keep.drew ?_ | refine Keep.drewN ?_ _ | refine Keep.alloc ?_ _ | refine Keep.setNew ?_ (by omega) _)); done) hk6; have HZ6 : Hid (w6.cell? ⟨A.X, 1, none⟩ = some (.pointer (some ⟨A.W, 0, none⟩))) := (HK6.out.cell (block_lt_cell HZ0.out) (by obtain ⟨c7, t7⟩ := HMJ.out.rw.mg.typ; exact typ_ne HMJ.out.hX t7 (by decide))).trans HZ0.out; clear hr6 hk6))
        all_goals
          go_wp2
          go_end0
          refine ⟨rfl, ?_, (HKJ.out.mono fun z _ e => .inr (.inr (.inr (.inr (by simp [Value.ownBlock, e]))))).trans (HK6.out.mono fun z _ e => .inr (.inl e))⟩
          have h := HMJ.out.zero HR6.out HK6.out
          unfold gvnX
          rw [HP.out, if_neg (by have := HI.out; omega)]
          exact h

abbrev SX (X K x mark : Nat) (w : World) : Prop := w.cell? ⟨X, 0, none⟩ = some (.pointer (some ⟨K, 0, none⟩)) ∧ w.cell? ⟨K, 0, none⟩ = some (.pointer (some ⟨x, 0, none⟩)) ∧ w.cell? ⟨X, 3, none⟩ = some (.int .i64 (mark : Int))
theorem sx_of {w : World} {A : Ad} {iv : Value} {P : PS} (h : Mx w A iv P) : SX A.X A.K A.x A.mark w := ⟨(cells4 h.hX).1, (cell2b h.rk.hX).1, (cells4 h.hX).2.2.2⟩
theorem sx_keep {w w' : World} {X K x mark : Nat} (h : SX X K x mark w) (k : Keep (fun _ => False) w w') : SX X K x mark w' :=
  ⟨(k.cell (block_lt_cell h.1) id).trans h.1, (k.cell (block_lt_cell h.2.1) id).trans h.2.1, (k.cell (block_lt_cell h.2.2) id).trans h.2.2⟩
theorem sub_facts (a b m : Nat) (h : b ≤ a) (h1 : a ≤ 1024) (h2 : m ≤ 1024) : ∃ z : Nat, a - b = z ∧ IntKind.i64.wrap ((a : Int) - (b : Int)) = (z : Int) ∧ (z < m ∨ m ≤ z) ∧ (m ≤ z → IntKind.i64.wrap ((z : Int) - (m : Int)) = ((z - m : Nat) : Int)) ∧ z ≤ 1024 :=
  ⟨a - b, rfl, (IntWalk.i64_in _ (by omega)).trans (by omega), by omega, fun h => (IntWalk.i64_in _ (by omega)).trans (by omega), by omega⟩
set_option maxRecDepth 100000 in
set_option maxHeartbeats 2000000 in
theorem rspare_any {w : World} {A : Ad} {iv : Value} {P : PS} (h : Mx w A iv P) (hmk : A.mark ≤ A.n) : Calls Tryz.prog 31 #[.pointer (some ⟨A.X, 0, none⟩)] w fun e w' => e = .returned (.int .i64 (spr A P : Nat)) ∧ Keep (fun _ => False) w w' := by
  have HM := Lib.hid h
  have HSX := Lib.hid (sx_of h)
  unfold spr
  have hle := cntK_le_cnt (F := P.F) (M := P.M) A.n
  have hce := cnt_le P.F A.n
  have hn := h.rk.n8.2
  have HN := Lib.hid hn
  obtain ⟨a, ha⟩ : ∃ a, cnt P.F A.n = a := ⟨_, rfl⟩
  obtain ⟨b, hb⟩ : ∃ b, cntK P.F P.M 3 A.n = b := ⟨_, rfl⟩
  obtain ⟨mk, hmk2⟩ : ∃ mk, A.mark = mk := ⟨_, rfl⟩
  rw [ha, hb] at hle
  rw [ha] at hce
  rw [hmk2] at HSX hmk ⊢
  obtain ⟨z, ez, e1, hc, e2, hz⟩ := sub_facts a b mk hle (by omega) (by omega)
  have HA := Lib.hid ha
  have HB := Lib.hid hb
  have HCA : Hid (∀ W, Keep (fun _ => False) w W → Calls Tryz.prog 32 #[.pointer (some ⟨A.x, 0, none⟩)] W fun e w' => e = .returned (.int .i64 (a : Int)) ∧ Keep (fun _ => False) W w') := fun W k => by
    refine (rfree_any (HM.out.keep0 k).rk.rx HN.out).mono ?_
    rintro e w' ⟨rfl, rfl⟩
    exact ⟨by rw [HA.out], Keep.refl _ _⟩
  have HCB : Hid (∀ W, Keep (fun _ => False) w W → Calls Tryz.prog 63 #[.pointer (some ⟨A.K, 0, none⟩), .int .i64 3] W fun e w' => e = .returned (.int .i64 (b : Int)) ∧ Keep (fun _ => False) W w') := fun W k => by
    refine (rfreeOf 3 (HM.out.keep0 k).rk).mono ?_
    rintro e w' ⟨rfl, rfl⟩
    exact ⟨by rw [HB.out], Keep.refl _ _⟩
  rw [ha, hb, ez]
  obtain ⟨s0, s1, s3⟩ := HSX.out
  clear h ha hb hle hce hn hmk hmk2 ez
  go_enter Tryz.func31, Tryz.ntmps31
  go_wp2
  go_region_held3 (fun w' => SX A.X A.K A.x mk w')
    (first | exact HC6.out | exact HC5.out | exact HSX.out)
    (first | (go_at_call 32; refine (HCA.out _ (by (repeat (first | exact Keep.refl _ _ | exact Keep.refl _ _ | refine Keep.drew ?_ | refine Keep.drewN ?_ _ | refine Keep.alloc ?_ _ | refine Keep.setNew ?_ (by omega) _)); done)).mono ?_; rintro e w5 ⟨rfl, hk5⟩; have HK5 : Hid (Keep (fun _ => False) w w5) := Keep.trans (by (repeat (first | exact Keep.refl _ _ | exact Keep.refl _ _ | refine Keep.drew ?_ | refine Keep.drewN ?_ _ | refine Keep.alloc ?_ _ | refine Keep.setNew ?_ (by omega) _)); done) hk5; have HC5 : Hid (SX A.X A.K A.x mk w5) := sx_keep HSX.out HK5.out; clear hk5)
           | (go_at_call 63; refine (HCB.out _ (by (repeat (first | exact HK5.out | exact Keep.refl _ _ | refine Keep.drew ?_ | refine Keep.drewN ?_ _ | refine Keep.alloc ?_ _ | refine Keep.setNew ?_ (by omega) _)); done)).mono ?_; rintro e w6 ⟨rfl, hk6⟩; have HK6 : Hid (Keep (fun _ => False) w w6) := Keep.trans (by (repeat (first | exact HK5.out | exact Keep.refl _ _ | refine Keep.drew ?_ | refine Keep.drewN ?_ _ | refine Keep.alloc ?_ _ | refine Keep.setNew ?_ (by omega) _)); done) hk6; have HC6 : Hid (SX A.X A.K A.x mk w6) := sx_keep HSX.out HK6.out; clear hk6))
  all_goals
    obtain ⟨s0, s1, s3⟩ := HC6.out
    rcases hc with hc | hc
    · have t0 : decide ((z : Int) < (mk : Int)) = true := by simp; omega
      have t0n : decide (z < mk) = true := by simp; omega
      have HZ : Hid (z - mk = 0) := by unfold Hid; omega
      clear hc e2
      go_wp2
      go_ret
      exact ⟨by rw [HZ.out]; rfl, by (repeat (first | exact HK6.out | exact Keep.refl _ _ | refine Keep.drew ?_ | refine Keep.drewN ?_ _ | refine Keep.alloc ?_ _ | refine Keep.setNew ?_ (by omega) _)); done⟩
    · have t0 : decide ((z : Int) < (mk : Int)) = false := by simp; omega
      have t0n : decide (z < mk) = false := by simp; omega
      have e3 := e2 hc
      clear hc e2
      go_wp2
      go_ret
      exact ⟨rfl, by (repeat (first | exact HK6.out | exact Keep.refl _ _ | refine Keep.drew ?_ | refine Keep.drewN ?_ _ | refine Keep.alloc ?_ _ | refine Keep.setNew ?_ (by omega) _)); done⟩

end Go.Proofs.YtjffdimlbppgcaaGreat
