/- Memory: the program's given, Spare. -/
import Derived.Test.YtjffdimlbppgcaaGreatMA
import Derived.Deep.RegionHeld3
set_option linter.unusedVariables false
set_option linter.unusedSimpArgs false
namespace Go.Proofs.YtjffdimlbppgcaaGreat
open Go.RowKit Go.Own

theorem cells4 {w : World} {b e : Nat} {x0 x1 x2 x3 : Value} {z : Nat × Nat} (hb : w.heap[b]? = some (.cells #[x0, x1, x2, x3] e z)) :
    w.cell? ⟨b, 0, none⟩ = some x0 ∧ w.cell? ⟨b, 1, none⟩ = some x1 ∧ w.cell? ⟨b, 2, none⟩ = some x2 ∧ w.cell? ⟨b, 3, none⟩ = some x3 := by simp [cell_block hb]
section
variable {w w' : World} {A : Ad} {N : Nat → Prop} {P : PS}
theorem Mo.turn {L' : List Int} (h : Mo w A N P) (hr : Fr.RepF w' A.f A.q L') (k : Keep (fun z => z = A.f ∨ z = A.q) w w') (hl : L'.length = A.n) : Mo w' A N { P with L := L' } := by
  obtain ⟨c1, t1⟩ := h.ko.bf.hp
  obtain ⟨c2, t2⟩ := h.ra.mb.typ
  have t5 : w.heap[A.q]? = some (.cells _ 3 (0, 0)) := h.rf.hq
  obtain ⟨c4, t4⟩ := h.ko.mt.typ
  have hne : ∀ {b e : Nat} {c : Array Value}, w.heap[b]? = some (.cells c e (0, 0)) → e ≠ 104 ∧ e ≠ 3 → ¬ (b = A.f ∨ b = A.q) := by
    rintro b e c hb ⟨e1, e2⟩ (rfl | rfl)
    · exact typ_ne hb h.rf.hp e1 rfl
    · exact typ_ne hb t5 e2 rfl
  exact ⟨(k.block A.m (block_lt h.hm) (hne h.hm (by decide))).trans h.hm, ⟨(k.block A.k (block_lt h.ko.hk) (hne h.ko.hk (by decide))).trans h.ko.hk, (h.ko.bf.keep k (hne t1 (by decide)) (by
      rintro z ⟨⟨_, _, h8⟩, c, hz⟩ (rfl | rfl)
      · exact typ_ne hz h.rf.hp (by decide) rfl
      · exact h8 h.nq)).gk (fun z hz => hz.1.2.2), h.ko.mt.keep k (by
      rintro (e | e)
      · exact typ_ne t4 h.rf.hp (by decide) e
      · exact h.ne e), h.ko.nk, fun z hz => Nat.lt_of_lt_of_le (h.ko.nl z hz) k.size, Nat.le_trans h.ko.hB k.size⟩,
    h.ra.keep k (hne h.ra.hr (by decide)) (hne t2 (by decide)), hr, hl, h.nq, h.ne, h.mk8, h.bm⟩
theorem Mo.zero {W' : Nat → Nat} (h : Mo w A N P) (hr : RA w' A.r A.rb A.n W') (k : Keep (fun z => z = A.rb) w w') : Mo w' A N { P with W := W' } := by
  obtain ⟨c1, t1⟩ := h.ko.bf.hp
  obtain ⟨c2, t2⟩ := h.ra.mb.typ
  have t5 : w.heap[A.q]? = some (.cells _ 3 (0, 0)) := h.rf.hq
  obtain ⟨c4, t4⟩ := h.ko.mt.typ
  have hne : ∀ {b e : Nat} {c : Array Value}, w.heap[b]? = some (.cells c e (0, 0)) → e ≠ 5 → ¬ (b = A.rb) := fun hb e1 => typ_ne hb t2 e1
  exact ⟨(k.block A.m (block_lt h.hm) (hne h.hm (by decide))).trans h.hm, ⟨(k.block A.k (block_lt h.ko.hk) (hne h.ko.hk (by decide))).trans h.ko.hk, (h.ko.bf.keep k (hne t1 (by decide)) (by
      rintro z ⟨_, c, hz⟩
      exact hne hz (by decide))).gk (fun z hz => hz.1.2.2), h.ko.mt.keep k (hne t4 (by decide)), h.ko.nk, fun z hz => Nat.lt_of_lt_of_le (h.ko.nl z hz) k.size, Nat.le_trans h.ko.hB k.size⟩,
    hr, ⟨(k.block A.f (block_lt h.rf.hp) (hne h.rf.hp (by decide))).trans h.rf.hp, (k.block A.q (block_lt t5) (hne t5 (by decide))).trans h.rf.hq, h.rf.ne, h.rf.lo, h.rf.hi, h.rf.st⟩, h.ln, h.nq, h.ne, h.mk8, h.bm⟩
end
theorem turnE_given {L : List Int} {f p is : Nat} (hp : 1 ≤ p) (hf : f + p ≤ L.length) (ha : Fr.allAre L f p 0) (h1 : 1 ≤ is) (h5 : is ≤ 5) : Fr.turnE L (f : Int) (p : Int) 0 (is : Int) = 0 ∧ Fr.turnL L (f : Int) (p : Int) 0 (is : Int) = Fr.fillN L f (is : Int) p := by
  have e : Fr.turnE L (f : Int) (p : Int) 0 (is : Int) = 0 := by
    unfold Fr.turnE
    rw [if_neg (by rw [Fr.stateB_iff_f, Fr.stateB_iff_f]; omega), if_neg (by omega), if_neg (by simp [Fr.mayB]; omega), if_pos (by simpa using ha)]
  refine ⟨e, ?_⟩
  unfold Fr.turnL
  rw [if_pos e]; simp

abbrev GV (t4 t5 t7 m r f ff is : Nat) (w : World) : Prop := w.cell? ⟨t4, 0, none⟩ = some (.pointer (some ⟨m, 0, none⟩)) ∧ w.cell? ⟨t5, 0, none⟩ = some (.int .i64 (ff : Int)) ∧ w.cell? ⟨t7, 0, none⟩ = some (.int .i64 (is : Int)) ∧ w.cell? ⟨m, 0, none⟩ = some (.pointer (some ⟨r, 0, none⟩)) ∧ w.cell? ⟨m, 2, none⟩ = some (.pointer (some ⟨f, 0, none⟩))
theorem gv_keep {w w' : World} {t4 t5 t7 m r f ff is : Nat} {S : Nat → Prop} (h : GV t4 t5 t7 m r f ff is w) (K : Keep S w w') (h4 : ¬ S t4) (h5 : ¬ S t5) (h7 : ¬ S t7) (hm : ¬ S m) : GV t4 t5 t7 m r f ff is w' :=
  ⟨(K.cell (block_lt_cell h.1) h4).trans h.1, (K.cell (block_lt_cell h.2.1) h5).trans h.2.1, (K.cell (block_lt_cell h.2.2.1) h7).trans h.2.2.1, (K.cell (block_lt_cell h.2.2.2.1) hm).trans h.2.2.2.1, (K.cell (block_lt_cell h.2.2.2.2) hm).trans h.2.2.2.2⟩
set_option maxRecDepth 100000 in
set_option maxHeartbeats 2000000 in
theorem given1 {w : World} {A : Ad} {N : Nat → Prop} {P : PS} {t4 t5 t7 f p is : Nat} (h : Mo w A N P) (hp : 1 ≤ p) (hf : f + p ≤ A.n) (ha : Fr.allAre P.L f p 0) (h1 : 1 ≤ is) (h5 : is ≤ 5)
    (hg : GV t4 t5 t7 A.m A.r A.f f is w) (hn : ∀ z, z = A.f ∨ z = A.q ∨ z = A.rb → z ≠ t4 ∧ z ≠ t5 ∧ z ≠ t7) :
    Calls Tryz.prog 70 #[.int .i64 (p : Int), .pointer (some ⟨t4, 0, none⟩), .pointer (some ⟨t5, 0, none⟩), .pointer (some ⟨t7, 0, none⟩)] w fun e w' => e = .returned (.int .i64 0) ∧ Mo w' A N { P with L := Fr.fillN P.L f (is : Int) p, W := zerW P.W f p } ∧ Keep (fun z => z = A.f ∨ z = A.q ∨ z = A.rb) w w' := by
  have HM := Lib.hid h
  have HG := Lib.hid hg
  have HN := Lib.hid hn
  obtain ⟨e1, e2⟩ := turnE_given hp (by rw [h.ln]; exact hf) ha h1 h5
  have HE1 := Lib.hid e1
  have HE2 := Lib.hid e2
  have HP := Lib.hid (And.intro hp hf)
  have HLN : Hid ((Fr.fillN P.L f (is : Int) p).length = A.n) := by unfold Hid; rw [Fr.fillN_length]; exact h.ln
  obtain ⟨z4, z5, z7, m0, m2⟩ := hg
  clear h hn hp hf ha h1 h5 e1 e2
  go_enter Tryz.func70, Tryz.ntmps70
  go_wp2
  go_region_held3 (fun w' => GV t4 t5 t7 A.m A.r A.f f is w')
    (first | exact HG5.out | exact HG.out)
    (first | (go_at_call 59; refine (Fr.turn_any A.f A.q P.L (f : Int) (p : Int) 0 (is : Int) _ (HM.out.keep0 (by (repeat (first | exact Keep.refl _ _ | exact Keep.refl _ _ | refine Keep.drew ?_ | refine Keep.drewN ?_ _ | refine Keep.alloc ?_ _ | refine Keep.setNew ?_ (by omega) _)); done)).rf).mono ?_; rw [HE1.out, HE2.out]; rintro e w5 ⟨rfl, hr5, hk5⟩; have HR5 := Lib.hid hr5; have HK5 : Hid (Keep (fun z => z = A.f ∨ z = A.q) w w5) := Keep.trans (by (repeat (first | exact Keep.refl _ _ | exact Keep.refl _ _ | refine Keep.drew ?_ | refine Keep.drewN ?_ _ | refine Keep.alloc ?_ _ | refine Keep.setNew ?_ (by omega) _)); done) hk5; have HG5 : Hid (GV t4 t5 t7 A.m A.r A.f f is w5) := gv_keep HG.out HK5.out (fun e => (HN.out _ (e.imp id .inl)).1 rfl) (fun e => (HN.out _ (e.imp id .inl)).2.1 rfl) (fun e => (HN.out _ (e.imp id .inl)).2.2 rfl) (by rintro (e | e); exact typ_ne HM.out.hm HM.out.rf.hp (by decide) e; exact typ_ne HM.out.hm HM.out.rf.hq (by decide) e); clear hr5 hk5))
  all_goals
    have HM5 := Lib.hid (HM.out.turn HR5.out HK5.out HLN.out)
    clear HG
    obtain ⟨z4, z5, z7, m0, m2⟩ := HG5.out
    go_wp2
    go_region_held3 (fun w' => GV t4 t5 t7 A.m A.r A.f f is w')
      (first | exact HG6.out | exact HG5.out)
      (first | (go_at_call 71; refine (zero_ok (HM5.out.keep0 (by (repeat (first | exact Keep.refl _ _ | exact Keep.refl _ _ | refine Keep.drew ?_ | refine Keep.drewN ?_ _ | refine Keep.alloc ?_ _ | refine Keep.setNew ?_ (by omega) _)); done)).ra HP.out.1 HP.out.2).mono ?_; rintro e w6 ⟨rfl, hr6, hk6⟩; have HR6 := Lib.hid hr6; have HK6 : Hid (Keep (fun z => z = A.rb) w5 w6) := Keep.trans (by (repeat (first | exact Keep.refl _ _ | exact Keep.refl _ _ | refine Keep.drew ?_ | refine Keep.drewN ?_ _ | refine Keep.alloc ?_ _ | refine Keep.setNew ?_ (by omega) _)); done) hk6; have HG6 : Hid (GV t4 t5 t7 A.m A.r A.f f is w6) := gv_keep HG5.out HK6.out (fun e => (HN.out _ (.inr (.inr e))).1 rfl) (fun e => (HN.out _ (.inr (.inr e))).2.1 rfl) (fun e => (HN.out _ (.inr (.inr e))).2.2 rfl) (by intro e; obtain ⟨c2, t2⟩ := HM5.out.ra.mb.typ; exact typ_ne HM5.out.hm t2 (by decide) e); clear hr6 hk6))
    all_goals
      go_wp2
      go_ret
      exact ⟨rfl, HM5.out.zero HR6.out HK6.out, (HK5.out.mono fun _ _ e => e.imp id .inl).trans (HK6.out.mono fun _ _ e => .inr (.inr e))⟩

set_option maxRecDepth 100000 in
set_option maxHeartbeats 2000000 in
theorem given_ok {w : World} {A : Ad} {N : Nat → Prop} {P : PS} {f o is : Nat} (h : Mo w A N P) (ho : o ≤ 8) (hf : f + 2 ^ o ≤ A.n) (ha : Fr.allAre P.L f (2 ^ o) 0) (h1 : 1 ≤ is) (h5 : is ≤ 5) :
    Calls Tryz.prog 39 #[.pointer (some ⟨A.m, 0, none⟩), .int .i64 (f : Int), .int .i64 (o : Int), .int .i64 (is : Int)] w fun e w' => e = .returned (.int .i64 0) ∧ Mo w' A N { P with L := Fr.fillN P.L f (is : Int) (2 ^ o), W := zerW P.W f (2 ^ o) } ∧ Keep (fun z => z = A.f ∨ z = A.q ∨ z = A.rb) w w' := by
  have HM := Lib.hid h
  obtain ⟨p1, p2⟩ := pw_w o ho
  obtain ⟨p3, p4⟩ := pw o ho
  obtain ⟨p, hp⟩ : ∃ p, 2 ^ o = p := ⟨_, rfl⟩
  rw [hp] at p1 p2 p3 p4 hf ha ⊢
  have HC := Lib.hid (And.intro p3 (And.intro hf (And.intro ha (And.intro h1 h5))))
  have i0 : (0 : Int) ≤ o := by omega
  have i8 : (o : Int) ≤ 8 := by omega
  have H4 := heap_alloc_new w (.cells #[.pointer (some ⟨A.m, 0, none⟩)] 25)
  have H5 := heap_alloc_new (w.alloc (.cells #[.pointer (some ⟨A.m, 0, none⟩)] 25)) (.cells #[.int .i64 (f : Int)] 3)
  have H7 := heap_alloc_new ((w.alloc (.cells #[.pointer (some ⟨A.m, 0, none⟩)] 25)).alloc (.cells #[.int .i64 (f : Int)] 3)) (.cells #[.int .i64 (is : Int)] 3)
  have HK : Hid (Keep (fun _ => False) w (((w.alloc (.cells #[.pointer (some ⟨A.m, 0, none⟩)] 25)).alloc (.cells #[.int .i64 (f : Int)] 3)).alloc (.cells #[.int .i64 (is : Int)] 3))) := (by (repeat (first | exact Keep.refl _ _ | exact Keep.refl _ _ | refine Keep.drew ?_ | refine Keep.drewN ?_ _ | refine Keep.alloc ?_ _ | refine Keep.setNew ?_ (by omega) _)); done)
  have k4 : Keep (fun _ => False) (w.alloc (.cells #[.pointer (some ⟨A.m, 0, none⟩)] 25)) (((w.alloc (.cells #[.pointer (some ⟨A.m, 0, none⟩)] 25)).alloc (.cells #[.int .i64 (f : Int)] 3)).alloc (.cells #[.int .i64 (is : Int)] 3)) := (by (repeat (first | exact Keep.refl _ _ | exact Keep.refl _ _ | refine Keep.drew ?_ | refine Keep.drewN ?_ _ | refine Keep.alloc ?_ _ | refine Keep.setNew ?_ (by omega) _)); done)
  have k5 : Keep (fun _ => False) ((w.alloc (.cells #[.pointer (some ⟨A.m, 0, none⟩)] 25)).alloc (.cells #[.int .i64 (f : Int)] 3)) (((w.alloc (.cells #[.pointer (some ⟨A.m, 0, none⟩)] 25)).alloc (.cells #[.int .i64 (f : Int)] 3)).alloc (.cells #[.int .i64 (is : Int)] 3)) := (by (repeat (first | exact Keep.refl _ _ | exact Keep.refl _ _ | refine Keep.drew ?_ | refine Keep.drewN ?_ _ | refine Keep.alloc ?_ _ | refine Keep.setNew ?_ (by omega) _)); done)
  have H4' := (k4.block _ (block_lt H4) id).trans H4
  have H5' := (k5.block _ (block_lt H5) id).trans H5
  have e5 : (w.alloc (.cells #[.pointer (some ⟨A.m, 0, none⟩)] 25)).heap.size = w.heap.size + 1 := World.size_alloc _ _
  have e7 : ((w.alloc (.cells #[.pointer (some ⟨A.m, 0, none⟩)] 25)).alloc (.cells #[.int .i64 (f : Int)] 3)).heap.size = w.heap.size + 1 + 1 := by rw [World.size_alloc, e5]
  rw [e5] at H5'
  rw [e7] at H7
  have HB := Lib.hid (And.intro H4' (And.intro H5' H7))
  clear H4 H5 H7 k4 k5 H4' H5' e5 e7 h hf ha h1 h5 ho hp
  go_enter Tryz.func39, Tryz.ntmps39
  go_wp2_with fail
  have HM1 := Lib.hid (HM.out.keep0 HK.out)
  have hlt : ∀ z, z = A.f ∨ z = A.q ∨ z = A.rb → z < w.heap.size := by
    rintro z (rfl | rfl | rfl)
    · exact block_lt HM.out.rf.hp
    · exact block_lt HM.out.rf.hq
    · exact HM.out.ra.mb.lt
  obtain ⟨m0, m1, m2, m3⟩ := cells4 HM1.out.hm
  refine (given1 HM1.out HC.out.1 HC.out.2.1 HC.out.2.2.1 HC.out.2.2.2.1 HC.out.2.2.2.2 ⟨by rw [cell_block HB.out.1]; rfl, by rw [cell_block HB.out.2.1]; rfl, by rw [cell_block HB.out.2.2]; rfl, m0, m2⟩ (fun z hz => by have := hlt z hz; omega)).mono ?_
  rintro e w2 ⟨rfl, hm, hk⟩
  have HM2 := Lib.hid hm
  have HK2 := Lib.hid hk
  clear hm hk m0 m1 m2 m3
  go_wp2
  go_ret
  exact ⟨rfl, HM2.out, (HK.out.mono fun _ _ h => h.elim).trans HK2.out⟩
/-- How many may be given. -/
def spr (A : Ad) (P : PS) : Nat := cnt P.F A.n - cntK P.F P.M 3 A.n - A.mark
theorem cntK_le_cnt {F : Nat → Bool} {M : Nat → Int} (n : Nat) : cntK F M 3 n ≤ cnt F n := by
  unfold cntK cnt
  exact List.countP_mono_left fun i _ h => by simp at h; exact h.1
theorem max_facts (a b m : Nat) (h : b ≤ a) (h1 : a ≤ 1024) (h2 : m ≤ 1024) : ∃ z : Int, IntKind.i64.wrap ((a : Int) - (b : Int)) = ((a - b : Nat) : Int) ∧ IntKind.i64.wrap (((a - b : Nat) : Int) - (m : Int)) = z ∧ (if (0 : Int) < z then z else 0) = ((a - b - m : Nat) : Int) ∧ (if (0 : Int) ≤ z then z else 0) = ((a - b - m : Nat) : Int) ∧ max 0 z = ((a - b - m : Nat) : Int) :=
  ⟨_, (IntWalk.i64_in _ (by omega)).trans (by omega), IntWalk.i64_in _ (by omega), by split <;> omega, by split <;> omega, by omega⟩
set_option maxRecDepth 100000 in
set_option maxHeartbeats 2000000 in
theorem spare_any {w : World} {A : Ad} {N : Nat → Prop} {P : PS} (h : Mo w A N P) : Calls Tryz.prog 10 #[.pointer (some ⟨A.m, 0, none⟩)] w fun e w' => e = .returned (.int .i64 (spr A P : Nat)) ∧ Keep (fun _ => False) w w' := by
  have HM := Lib.hid h
  obtain ⟨m0, m1, m2, m3⟩ := cells4 h.hm
  have HMC := Lib.hid (And.intro m1 m3)
  unfold spr
  have hle := cntK_le_cnt (F := P.F) (M := P.M) A.n
  have hce := cnt_le P.F A.n
  have hn := h.ra.n8.2
  have hmk := h.mk8
  obtain ⟨a, ha⟩ : ∃ a, cnt P.F A.n = a := ⟨_, rfl⟩
  obtain ⟨b, hb⟩ : ∃ b, cntK P.F P.M 3 A.n = b := ⟨_, rfl⟩
  rw [ha, hb] at hle
  rw [ha] at hce
  obtain ⟨z, e1, e2, e3, e4, e5⟩ := max_facts a b A.mark hle (by omega) (by omega)
  have HE := Lib.hid (And.intro e3 (And.intro e4 e5))
  have HA := Lib.hid ha
  have HB := Lib.hid hb
  rw [ha, hb]
  clear h ha hb hle hce hn hmk e3 e4 e5
  go_enter Tryz.func10, Tryz.ntmps10
  go_wp2
  go_region_held3 (fun w' => w'.cell? ⟨A.m, 1, none⟩ = some (.pointer (some ⟨A.k, 0, none⟩)) ∧ w'.cell? ⟨A.m, 3, none⟩ = some (.int .i64 A.mark))
    (first | exact HC6.out | exact HC5.out | exact HMC.out)
    (first | (go_at_call 34; refine (kfree (HM.out.keep0 (by (repeat (first | exact Keep.refl _ _ | exact Keep.refl _ _ | refine Keep.drew ?_ | refine Keep.drewN ?_ _ | refine Keep.alloc ?_ _ | refine Keep.setNew ?_ (by omega) _)); done)).ko).mono ?_; rw [HA.out]; rintro e w5 ⟨rfl, hk5⟩; have HK5 : Hid (Keep (fun _ => False) w w5) := Keep.trans (by (repeat (first | exact Keep.refl _ _ | exact Keep.refl _ _ | refine Keep.drew ?_ | refine Keep.drewN ?_ _ | refine Keep.alloc ?_ _ | refine Keep.setNew ?_ (by omega) _)); done) hk5; have HC5 : Hid (w5.cell? ⟨A.m, 1, none⟩ = some (.pointer (some ⟨A.k, 0, none⟩)) ∧ w5.cell? ⟨A.m, 3, none⟩ = some (.int .i64 A.mark)) := ⟨(HK5.out.cell (block_lt_cell HMC.out.1) id).trans HMC.out.1, (HK5.out.cell (block_lt_cell HMC.out.2) id).trans HMC.out.2⟩; clear hk5)
           | (go_at_call 33; refine (kfreeOf 3 (HM.out.keep0 (by (repeat (first | exact HK5.out | exact Keep.refl _ _ | refine Keep.drew ?_ | refine Keep.drewN ?_ _ | refine Keep.alloc ?_ _ | refine Keep.setNew ?_ (by omega) _)); done)).ko).mono ?_; rw [HB.out]; rintro e w6 ⟨rfl, hk6⟩; have HK6 : Hid (Keep (fun _ => False) w w6) := Keep.trans (by (repeat (first | exact HK5.out | exact Keep.refl _ _ | refine Keep.drew ?_ | refine Keep.drewN ?_ _ | refine Keep.alloc ?_ _ | refine Keep.setNew ?_ (by omega) _)); done) hk6; have HC6 : Hid (w6.cell? ⟨A.m, 1, none⟩ = some (.pointer (some ⟨A.k, 0, none⟩)) ∧ w6.cell? ⟨A.m, 3, none⟩ = some (.int .i64 A.mark)) := ⟨(HK6.out.cell (block_lt_cell HMC.out.1) id).trans HMC.out.1, (HK6.out.cell (block_lt_cell HMC.out.2) id).trans HMC.out.2⟩; clear hk6))
  all_goals
    go_wp2
    go_ret
    refine ⟨?_, HK6.out⟩
    show Ending.returned (.int .i64 (max 0 z)) = _
    rw [HE.out.2.2]

end Go.Proofs.YtjffdimlbppgcaaGreat
