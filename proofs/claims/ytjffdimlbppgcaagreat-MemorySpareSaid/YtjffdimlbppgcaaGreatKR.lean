/- Kinds: the reference's Take, the walk. -/
import Derived.Test.YtjffdimlbppgcaaGreatKQ
set_option linter.unusedVariables false
set_option linter.unusedSimpArgs false
namespace Go.Proofs.YtjffdimlbppgcaaGreat
open Go.RowKit Go.Own

def othj (kd : Int) (j : Nat) : Int := if j = 0 then (oth2 kd).1 else (oth2 kd).2
def nxt : Array Value := #[.int .i64 2, .int .i64 1, .int .i64 2, .int .i64 0, .int .i64 0, .int .i64 1]
theorem nx_facts (kd : Int) (hx : kd = 0 ∨ kd = 1 ∨ kd = 2) (j : Nat) (hj : j < 2) : ∃ (k2 : Int) (ix : Nat), IntKind.i64.wrap (2 * kd) = k2 ∧ IntKind.i64.wrap (k2 + (j : Int)) = (ix : Int) ∧ (0 : Int) ≤ ix ∧ (ix : Int) < 6 ∧ nxt[ix]? = some (.int .i64 (othj kd j)) := by
  have hj2 : j = 0 ∨ j = 1 := by omega
  rcases hx with rfl | rfl | rfl <;> rcases hj2 with rfl | rfl
  · exact ⟨0, 0, by decide, by decide, by decide, by decide, rfl⟩
  · exact ⟨0, 1, by decide, by decide, by decide, by decide, rfl⟩
  · exact ⟨2, 2, by decide, by decide, by decide, by decide, rfl⟩
  · exact ⟨2, 3, by decide, by decide, by decide, by decide, rfl⟩
  · exact ⟨4, 4, by decide, by decide, by decide, by decide, rfl⟩
  · exact ⟨4, 5, by decide, by decide, by decide, by decide, rfl⟩
/-- The search among other kinds, behind j of them. -/
def NxI (M : Nat → Int) (D : List Bk) (o : Nat) (kd : Int) (j : Nat) (z : Option Bk) : Prop :=
  (z = none ∧ (1 ≤ j → bst M (othj kd 0) true (flO o (pcs M D)) = none) ∧ (2 ≤ j → bst M (othj kd 1) true (flO o (pcs M D)) = none)) ∨ ∃ y, z = some y ∧ y ∈ flO o (pcs M D) ∧ tkP M D o kd = some (y, false)
theorem nxI_step {M : Nat → Int} {D : List Bk} {o : Nat} {kd : Int} {j : Nat} (h1 : bst M kd false (flO o (pcs M D)) = none) (h : NxI M D o kd j none) (hj : j < 2) : NxI M D o kd (j + 1) (bst M (othj kd j) true (flO o (pcs M D))) := by
  rcases h with ⟨-, h2, h3⟩ | ⟨y, h, -⟩
  · have e1 : bst M kd false (pcO M D o) = none := h1
    have hj2 : j = 0 ∨ j = 1 := by omega
    rcases hj2 with rfl | rfl
    · cases hb : bst M (othj kd 0) true (flO o (pcs M D)) with
      | none => exact .inl ⟨rfl, fun _ => hb, fun h => by omega⟩
      | some y =>
        refine .inr ⟨y, rfl, (bst_in hb).1, ?_⟩
        have e2 : bst M (oth2 kd).1 true (pcO M D o) = some y := hb
        unfold tkP; simp only [e1, e2]
    · cases hb : bst M (othj kd 1) true (flO o (pcs M D)) with
      | none => exact .inl ⟨rfl, fun _ => h2 (by omega), fun _ => hb⟩
      | some y =>
        refine .inr ⟨y, rfl, (bst_in hb).1, ?_⟩
        have e2 : bst M (oth2 kd).1 true (pcO M D o) = none := h2 (by omega)
        have e3 : bst M (oth2 kd).2 true (pcO M D o) = some y := hb
        unfold tkP; simp only [e1, e2, e3]
  · cases h
theorem nxI_none {M : Nat → Int} {D : List Bk} {o : Nat} {kd : Int} (h1 : bst M kd false (flO o (pcs M D)) = none) (h : NxI M D o kd 2 none) : tkP M D o kd = none := by
  rcases h with ⟨-, h2, h3⟩ | ⟨y, h, -⟩
  · have e1 : bst M kd false (pcO M D o) = none := h1
    have e2 : bst M (oth2 kd).1 true (pcO M D o) = none := h2 (by omega)
    have e3 : bst M (oth2 kd).2 true (pcO M D o) = none := h3 (by omega)
    unfold tkP; simp only [e1, e2, e3]
  · cases h

theorem setM_one {M : Nat → Int} {a u s8 : Nat} (x : Int) (h : (a + u) / 8 = s8) (i : Nat) : setM (fun i => if a / 8 ≤ i ∧ 8 * i < a + u then x else M i) s8 x i = if a / 8 ≤ i ∧ 8 * i < a + (u + 1) then x else M i := by
  unfold setM
  by_cases h1 : i = s8
  · rw [if_pos h1, if_pos (by omega)]
  · rw [if_neg h1]
    show (if a / 8 ≤ i ∧ 8 * i < a + u then x else M i) = _
    by_cases h2 : a / 8 ≤ i ∧ 8 * i < a + u
    · rw [if_pos h2, if_pos (by omega)]
    · rw [if_neg h2, if_neg (by omega)]
theorem tkM_at {M : Nat → Int} {a q o u : Nat} {x : Int} (h3 : 3 ≤ q) (hu : a + u = a + 2 ^ o) (i : Nat) :
    (if a / 8 ≤ i ∧ 8 * i < a + u then x else M i) = tkM M o x ⟨(a : Int), (q : Int)⟩ false i := by
  unfold tkM
  simp only [Int.toNat_natCast, true_and]
  by_cases h : a / 8 ≤ i ∧ 8 * i < a + u
  · rw [if_pos h, if_pos ⟨by omega, by omega, by omega⟩]
  · rw [if_neg h, if_neg (by omega)]
theorem rk_box {w w' : World} {X x g r cap n b9 : Nat} {F : Nat → Bool} {M : Nat → Int} {c : Array Value} (h : RK w X x g r cap n F M) (hb : w.heap[b9]? = some (.cells c 96 (0, 0))) (K : Keep (fun t => t = b9) w w') : RK w' X x g r cap n F M := by
  obtain ⟨C, hg, _⟩ := h.rx.2
  obtain ⟨c2, h2⟩ := h.mt.typ
  refine h.keep K fun z hz => ?_
  subst hz
  exact ⟨typ_ne hb h.hX (by decide), typ_ne hb h.rx.1 (by decide), typ_ne hb hg (by decide), typ_ne hb h2 (by decide)⟩

set_option maxRecDepth 100000 in
set_option maxHeartbeats 4000000 in
theorem rtake_any {w : World} {X x g r cap n : Nat} {F : Nat → Bool} {M : Nat → Int} (o : Nat) (kd : Int) (h : RK w X x g r cap n F M) (hF : ∀ i, F i = true → i < n) (ho : o ≤ 8) (hx : kd = 0 ∨ kd = 1 ∨ kd = 2) :
    Calls Tryz.prog 73 #[.pointer (some ⟨X, 0, none⟩), .int .i64 (o : Int), .int .i64 kd] w (RtC w X x g r cap n F M o kd) := by
  have HO := Lib.hid h
  have HFN := Lib.hid hF
  have HX := Lib.hid hx
  have t1 : decide ((o : Int) < 0) = false := by simp
  have t2 : decide (8 < (o : Int)) = false := by simp; omega
  have t2' : decide (8 < o) = false := by simp; omega
  have t3 : decide (kd < 0) = false := by simp; omega
  have t4 : decide (2 < kd) = false := by simp; omega
  clear h hx hF
  go_enter Tryz.func73, Tryz.ntmps73
  go_wp2_with fail
  refine (rpieces_any HO.out HFN.out).mono ?_
  rintro e w1 ⟨v, D, rfl, hI, hv, hl, hk1⟩
  have HO1 := Lib.hid (HO.out.keep0 hk1)
  have HK1 := Lib.hid hk1
  have HI := Lib.hid hI
  have HV := Lib.hid hv
  have HL := Lib.hid hl
  have HFI : Hid (∀ y, y ∈ pcs M D → fineP F n y) := fun y hy => pcs_fine hI HFN.out hy
  clear hk1 hI hv hl
  go_wp2_with fail
  refine (find_any v _ (o : Int) kd false HO1.out HV.out (fun y hy => fine_ok (HFI.out y hy)) HL.out).mono ?_
  rintro e w2 ⟨rfl, hk2⟩
  have HO2 := Lib.hid (HO1.out.keep0 hk2)
  have HK2 := Lib.hid (HK1.out.trans hk2)
  have HV2 := Lib.hid (HV.out.keep hk2 (fun _ _ => id))
  clear hk2 HO1 HK1 HV
  cases hb1 : bst M kd false (flO o (pcs M D)) with
  | some y =>
    obtain ⟨hm1, hm2⟩ := List.mem_filter.mp (bst_in hb1).1
    obtain ⟨a, q, rfl, hq8, haq, hbq, hend⟩ := HFI.out y hm1
    have HTK : Hid (tkP M D o kd = some (⟨a, q⟩, true)) := by unfold Hid tkP pcO; rw [show bst M kd false ((pcs M D).filter fun y => decide ((o : Int) ≤ y.o)) = _ from hb1]
    have HQ : Hid (q ≤ 8 ∧ a % 2 ^ q = 0 ∧ blk F q a ∧ o ≤ q) := ⟨hq8, haq, hbq, by simpa using hm2⟩
    have u0 : decide (0 ≤ (q : Int)) = true := by simp
    have u1 : decide ((q : Int) < 0) = false := by simp
    simp only [fbm, Option.getD_some]
    clear hm1 hm2 hq8 haq hbq hend hb1
    have ha9 := heap_alloc_new w2 (.cells #[.int .i64 (a : Int), .int .i64 (q : Int)] 96)
    have HB9 : Hid (((w2.alloc (.cells #[.int .i64 (a : Int), .int .i64 (q : Int)] 96)).alloc (.cells #[.int .i64 2, .int .i64 1, .int .i64 2, .int .i64 0, .int .i64 0, .int .i64 1] 3)).heap[w2.heap.size]? = some (.cells #[.int .i64 (a : Int), .int .i64 (q : Int)] 96 (0, 0))) := by
      show _ = _
      rw [heap_alloc_at, if_neg (by simp)]; exact ha9
    have HKA : Hid (Keep (fun _ => False) w2 ((w2.alloc (.cells #[.int .i64 (a : Int), .int .i64 (q : Int)] 96)).alloc (.cells #[.int .i64 2, .int .i64 1, .int .i64 2, .int .i64 0, .int .i64 0, .int .i64 1] 3))) := ((Keep.refl _ _).alloc _).alloc _
    clear ha9
    go_wp2
    obtain ⟨b9, hb9⟩ : ∃ b9, w2.heap.size = b9 := ⟨_, rfl⟩
    rw [hb9] at HB9 ⊢
    generalize (w2.alloc (.cells #[.int .i64 (a : Int), .int .i64 (q : Int)] 96)).alloc (.cells #[.int .i64 2, .int .i64 1, .int .i64 2, .int .i64 0, .int .i64 0, .int .i64 1] 3) = w3 at HB9 HKA ⊢
    have HO3 := Lib.hid (HO2.out.keep0 HKA.out)
    have HK3 := Lib.hid (HK2.out.trans HKA.out)
    obtain ⟨b0, b1⟩ := cell2b HB9.out
    obtain ⟨P, hP⟩ : ∃ P, 2 ^ o = P := ⟨_, rfl⟩
    have HSZ : Hid (∀ W, Calls Tryz.prog 16 #[.int .i64 (o : Int)] W fun e w' => e = .returned (.int .i64 (P : Int)) ∧ w' = W) := fun W => by
      rw [← hP, show ((2 ^ o : Nat) : Int) = (2 : Int) ^ o by simp]; exact size_any o ho W
    have hae : a + P ≤ 1024 := by
      have h1 := blk_end HFN.out HQ.out.2.2.1
      have h2 := Nat.pow_le_pow_right (n := 2) (by decide) HQ.out.2.2.2
      have h3 := HO3.out.n8.2
      omega
    have hwe : IntKind.i64.wrap ((a : Int) + (P : Int)) = ((a + P : Nat) : Int) := wsum a P (by omega) (by omega)
    obtain ⟨E, hE⟩ : ∃ E, a + P = E := ⟨_, rfl⟩
    rw [hE] at hwe hae
    have HAE : Hid (a ≤ E + 1024) := by show a ≤ _; omega
    clear hb9 hP hE
    refine wp_loop_once ?_
    go_wp2
    clear b0 b1
    go_loopw [13] (fun fv wr => ∃ t : Nat, fv = .int .i64 (t : Int) ∧ t ≤ E + 1024 ∧ Keep (fun _ => False) w3 wr) (fun fv _ => 3000 - (intOf fv).toNat)
    case atStart => exact ⟨a, rfl, HAE.out, Keep.refl _ _⟩
    case round =>
      obtain ⟨t, rfl, ht, hk⟩ := hrel
      have HKR := Lib.hid hk
      obtain ⟨b0, b1⟩ := cell2b ((hk.block b9 (block_lt HB9.out) id).trans HB9.out)
      clear hk
      by_cases hlt : t < E
      · have u2 : decide ((t : Int) < (E : Int)) = true := decide_eq_true (Int.ofNat_lt.mpr hlt)
        have u3 : decide (t < E) = true := decide_eq_true hlt
        have ht3 : (t : Int) < 2000 := by omega
        go_wp2
        go_quiet (first | (go_at_call 16; exact Calls.quiet_of_same (HSZ.out _)))
        go_wp2
        go_roundw
        case rel => exact ⟨t + 1, by go_num, by omega, (by (repeat (first | exact HKR.out | exact Keep.refl _ _ | refine Keep.drew ?_ | refine Keep.drewN ?_ _ | refine Keep.alloc ?_ _ | refine Keep.setNew ?_ (by omega) _)); done)⟩
        case measure => (clear hwe; simp [intOf]; omega)
      · have u2 : decide ((t : Int) < (E : Int)) = false := decide_eq_false (fun h => hlt (Int.ofNat_lt.mp h))
        have u3 : decide (t < E) = false := decide_eq_false hlt
        go_wp2
        go_quiet (first | (go_at_call 16; exact Calls.quiet_of_same (HSZ.out _)))
        go_wp2
        generalize hw4 : World.drewN wr _ = w4
        have HDN : Hid (Keep (fun _ => False) w3 w4) := by rw [← hw4]; exact (by (repeat (first | exact HKR.out | exact Keep.refl _ _ | refine Keep.drew ?_ | refine Keep.drewN ?_ _ | refine Keep.alloc ?_ _ | refine Keep.setNew ?_ (by omega) _)); done)
        have HO4 := Lib.hid (HO3.out.keep0 HDN.out)
        have HB4 := Lib.hid ((HDN.out.block b9 (block_lt HB9.out) id).trans HB9.out)
        clear hw4 b0 b1
        obtain ⟨e0, -⟩ := cell2b HB4.out
        obtain ⟨z0, -⟩ := cell2b HO4.out.hX
        go_region_held3 (fun w' => w'.cell? ⟨X, 0, none⟩ = some (.pointer (some ⟨x, 0, none⟩)) ∧ w'.cell? ⟨b9, 0, none⟩ = some (.int .i64 (a : Int)))
          (first | exact HC5.out | exact ⟨z0, e0⟩)
          (first | (go_at_call 76; refine (rtk_change (HO4.out.keep0 (by (repeat (first | exact Keep.refl _ _ | exact Keep.refl _ _ | refine Keep.drew ?_ | refine Keep.drewN ?_ _ | refine Keep.alloc ?_ _ | refine Keep.setNew ?_ (by omega) _)); done)) HFN.out HQ.out.1 HQ.out.2.1 HQ.out.2.2.1 HQ.out.2.2.2).mono ?_; rintro e w5 ⟨rfl, hO5, hk5⟩; have HO5 := Lib.hid hO5; have HK5 : Hid (Keep (fun z => z = g) w4 w5) := Keep.trans ((Keep.refl (fun z => z = g) w4).drew) hk5; have HC5 : Hid (w5.cell? ⟨X, 0, none⟩ = some (.pointer (some ⟨x, 0, none⟩)) ∧ w5.cell? ⟨b9, 0, none⟩ = some (.int .i64 (a : Int))) := ⟨(cell2b hO5.hX).1, (HK5.out.cell (block_lt_cell e0) (by obtain ⟨C, hg, _⟩ := HO4.out.rx.2; exact typ_ne HB4.out hg (by decide))).trans e0⟩; clear hO5 hk5))
        all_goals
          obtain ⟨-, e5⟩ := HC5.out
          go_wp2
          go_ret2
          exact ⟨D, HI.out, .inr ⟨⟨(a : Int), (q : Int)⟩, true, HTK.out, rfl, by rw [tkM_own]; simpa using HO5.out, ((HK3.out.trans HDN.out).mono (fun _ _ h => h.elim)).trans (HK5.out.mono (fun z _ h => .inl h))⟩⟩
  | none =>
    have HNB := Lib.hid hb1
    simp only [fbm, Option.getD_none]
    have ha9 := heap_alloc_new w2 (.cells #[.int .i64 0, .int .i64 (-1)] 96)
    have hbn := heap_alloc_new (w2.alloc (.cells #[.int .i64 0, .int .i64 (-1)] 96)) (.cells #[.int .i64 2, .int .i64 1, .int .i64 2, .int .i64 0, .int .i64 0, .int .i64 1] 3)
    rw [World.size_alloc] at hbn
    have HBN := Lib.hid hbn
    have HB9 : Hid (((w2.alloc (.cells #[.int .i64 0, .int .i64 (-1)] 96)).alloc (.cells #[.int .i64 2, .int .i64 1, .int .i64 2, .int .i64 0, .int .i64 0, .int .i64 1] 3)).heap[w2.heap.size]? = some (.cells #[.int .i64 0, .int .i64 (-1)] 96 (0, 0))) := by
      show _ = _
      rw [heap_alloc_at, if_neg (by simp)]; exact ha9
    have HKA : Hid (Keep (fun _ => False) w2 ((w2.alloc (.cells #[.int .i64 0, .int .i64 (-1)] 96)).alloc (.cells #[.int .i64 2, .int .i64 1, .int .i64 2, .int .i64 0, .int .i64 0, .int .i64 1] 3))) := ((Keep.refl _ _).alloc _).alloc _
    clear ha9 hbn hb1
    go_wp2
    obtain ⟨bn, hbn⟩ : ∃ bn, w2.heap.size + 1 = bn := ⟨_, rfl⟩
    obtain ⟨b9, hb9⟩ : ∃ b9, w2.heap.size = b9 := ⟨_, rfl⟩
    rw [hbn] at HBN ⊢
    rw [hb9] at HB9 ⊢
    generalize (w2.alloc (.cells #[.int .i64 0, .int .i64 (-1)] 96)).alloc (.cells #[.int .i64 2, .int .i64 1, .int .i64 2, .int .i64 0, .int .i64 0, .int .i64 1] 3) = w3 at HB9 HBN HKA ⊢
    have HSZ9 : Hid (w.heap.size ≤ b9) := by rw [← hb9]; exact HK2.out.size
    have HVB : Hid (¬ v.ownBlock = some b9) := fun e => by have := (HV2.out.lt _ e).2; omega
    clear hbn hb9
    go_loopw [12] (fun i wr => ∃ (j : Nat) (z : Option Bk), j ≤ 2 ∧ i = .int .i64 (j : Int) ∧ NxI M D o kd j z ∧ wr.heap[b9]? = some (.cells #[.int .i64 (fbm z).f, .int .i64 (fbm z).o] 96 (0, 0)) ∧ wr.heap[bn]? = some (.cells nxt 3 (0, 0)) ∧ RK wr X x g r cap n F M ∧ OwnL bkE wr w.heap.size 96 v (pcs M D) ∧ Keep (fun _ => False) w wr) (fun i _ => 2 - (intOf i).toNat)
    case atStart => exact ⟨0, none, by omega, rfl, .inl ⟨rfl, fun h => by omega, fun h => by omega⟩, HB9.out, HBN.out, HO2.out.keep0 HKA.out, HV2.out.keep HKA.out (fun _ _ => id), HK2.out.trans HKA.out⟩
    case round =>
      obtain ⟨j, z, hj, rfl, hN, hB, hBn, hO, hV, hK⟩ := hrel
      have HN := Lib.hid hN
      have HB := Lib.hid hB
      have HBn := Lib.hid hBn
      have HOr := Lib.hid hO
      have HVr := Lib.hid hV
      have HKr := Lib.hid hK
      obtain ⟨b0, b1⟩ := cell2b hB
      clear hN hBn hO hV hK
      cases z with
      | some y =>
        have hn := HN.out
        rcases hn with ⟨hz, -⟩ | ⟨y', hy', hmem, htk⟩
        · cases hz
        injection hy' with hy'
        subst hy'
        obtain ⟨hm1, hm2⟩ := List.mem_filter.mp hmem
        obtain ⟨a, q, rfl, hq8, haq, hbq, hend⟩ := HFI.out y hm1
        have HTK := Lib.hid htk
        have HQ : Hid (q ≤ 8 ∧ a % 2 ^ q = 0 ∧ blk F q a ∧ o ≤ q) := ⟨hq8, haq, hbq, by simpa using hm2⟩
        simp only [fbm, Option.getD_some] at b0 b1
        have HBB : Hid (wr.heap[b9]? = some (.cells #[.int .i64 (a : Int), .int .i64 (q : Int)] 96 (0, 0))) := HB.out
        have u1 : decide ((q : Int) < 0) = false := by simp
        obtain ⟨P, hP⟩ : ∃ P, 2 ^ o = P := ⟨_, rfl⟩
        have HSZ : Hid (∀ W, Calls Tryz.prog 16 #[.int .i64 (o : Int)] W fun e w' => e = .returned (.int .i64 (P : Int)) ∧ w' = W) := fun W => by
          rw [← hP, show ((2 ^ o : Nat) : Int) = (2 : Int) ^ o by simp]; exact size_any o ho W
        have hae : a + P ≤ n := by
          have h1 := blk_end HFN.out HQ.out.2.2.1
          have h2 := Nat.pow_le_pow_right (n := 2) (by decide) HQ.out.2.2.2
          omega
        have hn1 := HOr.out.n8.2
        have hwe : IntKind.i64.wrap ((a : Int) + (P : Int)) = ((a + P : Nat) : Int) := wsum a P (by omega) (by omega)
        obtain ⟨E, hE⟩ : ∃ E, a + P = E := ⟨_, rfl⟩
        rw [hE] at hwe hae
        have HEN := Lib.hid (And.intro hae hn1)
        have HEE : Hid (E = a + 2 ^ o) := by show E = _; rw [hP]; exact hE.symm
        clear hP hE hm1 hm2 hmem htk hq8 haq hbq hend hae hn1 HB HN
        go_wp2
        all_goals
          clear b0 b1
          by_cases hq3 : 3 ≤ q
          · have u5 : decide (3 ≤ (q : Int)) = true := by simp; omega
            have u6 : decide (3 ≤ q) = true := by simp; omega
            have HA8 : Hid (a % 8 = 0) := by have := mod_of_le (j := 3) hq3 HQ.out.2.1; show a % 8 = 0; simpa using this
            have HQ3 := Lib.hid hq3
            clear hq3
            go_loopw [13] (fun fv wx => ∃ t u : Nat, fv = .int .i64 (t : Int) ∧ t = a + u ∧ t ≤ E ∧ RK wx X x g r cap n F (fun i => if a / 8 ≤ i ∧ 8 * i < a + u then kd else M i) ∧ wx.heap[b9]? = some (.cells #[.int .i64 (a : Int), .int .i64 (q : Int)] 96 (0, 0)) ∧ Keep (fun z => z = r) wr wx) (fun fv _ => 3000 - (intOf fv).toNat)
            case atStart => exact ⟨a, 0, rfl, rfl, by rw [HEE.out]; exact Nat.le_add_right _ _, HOr.out.congr (fun i _ => by rw [if_neg (by have := HA8.out; omega)]), HBB.out, Keep.refl _ _⟩
            case round =>
              obtain ⟨t, u, rfl, ht, htE, hO, hB, hK⟩ := hrel
              have HOx := Lib.hid hO
              have HBx := Lib.hid hB
              have HKx := Lib.hid hK
              have HTU := Lib.hid ht
              obtain ⟨b0, b1⟩ := cell2b hB
              clear hO hB hK ht
              by_cases hlt : t < E
              · have v2 : decide ((t : Int) < (E : Int)) = true := decide_eq_true (Int.ofNat_lt.mpr hlt)
                have v3 : decide (t < E) = true := decide_eq_true hlt
                obtain ⟨s8, m0, m1, m2, m3, m4, m5, m6, m7⟩ := div8 t n (Nat.lt_of_lt_of_le hlt HEN.out.1) HEN.out.2
                have HS8 := Lib.hid m0
                have hc := HOx.out.mt.cell m5
                have hfz := HOx.out.mt.frozen s8
                obtain ⟨z0, z1⟩ := cell2b HOx.out.hX
                have HLT := Lib.hid hlt
                have ht3 : (t : Int) < 2000 := by have := HEN.out; clear m1 m2 m3 m4 m6 m7 hwe; omega
                clear m0 hlt htE
                go_wp2
                go_quiet (first | (go_at_call 16; exact Calls.quiet_of_same (HSZ.out _)))
                go_wp2
                go_roundw
                case rel => exact ⟨t + 1, u + 1, by go_num, by rw [HTU.out]; rfl, HLT.out, ((HOx.out.keep0 (by (repeat (first | exact Keep.refl _ _ | exact Keep.refl _ _ | refine Keep.drew ?_ | refine Keep.drewN ?_ _ | refine Keep.alloc ?_ _ | refine Keep.setNew ?_ (by omega) _)); done)).setM (i := s8) kd).1.congr (fun i _ => setM_one kd (by rw [← HTU.out]; exact HS8.out) i), by (rw [heap_setCell_ne (typ_ne HBx.out (HOx.out.mt.typ.choose_spec) (by decide))]; exact HBx.out), (HKx.out.trans (by (repeat (first | exact Keep.refl _ _ | exact Keep.refl _ _ | refine Keep.drew ?_ | refine Keep.drewN ?_ _ | refine Keep.alloc ?_ _ | refine Keep.setNew ?_ (by omega) _)); done)).setCell (p := ⟨r, s8, none⟩) (fun _ => rfl) _⟩
                case measure => (clear m1 m2 m3 m4 m6 m7 hwe; simp [intOf]; omega)
              · have v2 : decide ((t : Int) < (E : Int)) = false := decide_eq_false (fun h => hlt (Int.ofNat_lt.mp h))
                have v3 : decide (t < E) = false := decide_eq_false hlt
                have HTE : Hid (t = E) := Nat.le_antisymm htE (Nat.le_of_not_lt hlt)
                have HMM : Hid (∀ i, (if a / 8 ≤ i ∧ 8 * i < a + u then kd else M i) = tkM M o kd ⟨(a : Int), (q : Int)⟩ false i) := fun i => tkM_at HQ3.out (by rw [← HTU.out, HTE.out]; exact HEE.out) i
                have HOM := Lib.hid (HOx.out.congr (fun i _ => HMM.out i))
                clear hlt htE
                go_wp2
                go_quiet (first | (go_at_call 16; exact Calls.quiet_of_same (HSZ.out _)))
                go_wp2
                generalize hw4 : World.drewN wr _ = w4
                have HDN : Hid (Keep (fun _ => False) wr w4) := by rw [← hw4]; exact (by (repeat (first | exact Keep.refl _ _ | exact Keep.refl _ _ | refine Keep.drew ?_ | refine Keep.drewN ?_ _ | refine Keep.alloc ?_ _ | refine Keep.setNew ?_ (by omega) _)); done)
                have HO4 := Lib.hid (HOM.out.keep0 HDN.out)
                have HB4 := Lib.hid ((HDN.out.block b9 (block_lt HBx.out) id).trans HBx.out)
                clear hw4 b0 b1
                obtain ⟨e0, -⟩ := cell2b HB4.out
                obtain ⟨z0, -⟩ := cell2b HO4.out.hX
                go_region_held3 (fun w' => w'.cell? ⟨X, 0, none⟩ = some (.pointer (some ⟨x, 0, none⟩)) ∧ w'.cell? ⟨b9, 0, none⟩ = some (.int .i64 (a : Int)))
                  (first | exact HC5.out | exact ⟨z0, e0⟩)
                  (first | (go_at_call 76; refine (rtk_change (HO4.out.keep0 (by (repeat (first | exact Keep.refl _ _ | exact Keep.refl _ _ | refine Keep.drew ?_ | refine Keep.drewN ?_ _ | refine Keep.alloc ?_ _ | refine Keep.setNew ?_ (by omega) _)); done)) HFN.out HQ.out.1 HQ.out.2.1 HQ.out.2.2.1 HQ.out.2.2.2).mono ?_; rintro e w5 ⟨rfl, hO5, hk5⟩; have HO5 := Lib.hid hO5; have HK5 : Hid (Keep (fun z => z = g) w4 w5) := Keep.trans ((Keep.refl (fun z => z = g) w4).drew) hk5; have HC5 : Hid (w5.cell? ⟨X, 0, none⟩ = some (.pointer (some ⟨x, 0, none⟩)) ∧ w5.cell? ⟨b9, 0, none⟩ = some (.int .i64 (a : Int))) := ⟨(cell2b hO5.hX).1, (HK5.out.cell (block_lt_cell e0) (by obtain ⟨C, hg, _⟩ := HO4.out.rx.2; exact typ_ne HB4.out hg (by decide))).trans e0⟩; clear hO5 hk5))
                all_goals
                  obtain ⟨-, e5⟩ := HC5.out
                  go_wp2
                  go_ret2
                  exact ⟨D, HI.out, .inr ⟨⟨(a : Int), (q : Int)⟩, false, HTK.out, rfl, by simpa using HO5.out, ((HKr.out.mono (fun _ _ h => h.elim)).trans (HKx.out.mono (fun z _ h => .inr h))).trans ((HDN.out.mono (fun _ _ h => h.elim)).trans (HK5.out.mono (fun z _ h => .inl h)))⟩⟩
          · have u5 : decide (3 ≤ (q : Int)) = false := by simp; omega
            have u6 : decide (3 ≤ q) = false := by simp; omega
            have HMM : Hid (tkM M o kd ⟨(a : Int), (q : Int)⟩ false = M) := by funext i; unfold tkM; rw [if_neg (by simp; omega)]
            have HAE : Hid (a ≤ E + 1024) := by have := HEE.out; show a ≤ _; rw [this]; exact Nat.le_add_right_of_le (Nat.le_add_right _ _)
            have hE2 : E ≤ 1024 := Nat.le_trans HEN.out.1 HEN.out.2
            clear hq3
            go_loopw [13] (fun fv wx => ∃ t : Nat, fv = .int .i64 (t : Int) ∧ t ≤ E + 1024 ∧ Keep (fun _ => False) wr wx) (fun fv _ => 3000 - (intOf fv).toNat)
            case atStart => exact ⟨a, rfl, HAE.out, Keep.refl _ _⟩
            case round =>
              obtain ⟨t, rfl, ht, hk⟩ := hrel
              have HKR := Lib.hid hk
              have HBx := Lib.hid ((hk.block b9 (block_lt HBB.out) id).trans HBB.out)
              have HOx := Lib.hid (HOr.out.keep0 hk)
              have HKx := Lib.hid (HKr.out.trans hk)
              obtain ⟨b0, b1⟩ := cell2b HBx.out
              clear hk
              by_cases hlt : t < E
              · have v2 : decide ((t : Int) < (E : Int)) = true := decide_eq_true (Int.ofNat_lt.mpr hlt)
                have v3 : decide (t < E) = true := decide_eq_true hlt
                have ht3 : (t : Int) < 2000 := by clear hwe; omega
                have HNX : Hid (t + 1 ≤ E + 1024) := by clear hwe; show t + 1 ≤ _; omega
                clear hlt ht
                go_wp2
                go_quiet (first | (go_at_call 16; exact Calls.quiet_of_same (HSZ.out _)))
                go_wp2
                go_roundw
                case rel => exact ⟨t + 1, by go_num, HNX.out, (by (repeat (first | exact HKR.out | exact Keep.refl _ _ | refine Keep.drew ?_ | refine Keep.drewN ?_ _ | refine Keep.alloc ?_ _ | refine Keep.setNew ?_ (by omega) _)); done)⟩
                case measure => (clear hwe; simp [intOf]; omega)
              · have v2 : decide ((t : Int) < (E : Int)) = false := decide_eq_false (fun h => hlt (Int.ofNat_lt.mp h))
                have v3 : decide (t < E) = false := decide_eq_false hlt
                clear hlt ht
                go_wp2
                go_quiet (first | (go_at_call 16; exact Calls.quiet_of_same (HSZ.out _)))
                go_wp2
                generalize hw4 : World.drewN wr _ = w4
                have HDN : Hid (Keep (fun _ => False) wr w4) := by rw [← hw4]; exact (by (repeat (first | exact Keep.refl _ _ | exact Keep.refl _ _ | refine Keep.drew ?_ | refine Keep.drewN ?_ _ | refine Keep.alloc ?_ _ | refine Keep.setNew ?_ (by omega) _)); done)
                have HO4 := Lib.hid (HOx.out.keep0 HDN.out)
                have HB4 := Lib.hid ((HDN.out.block b9 (block_lt HBx.out) id).trans HBx.out)
                clear hw4 b0 b1
                obtain ⟨e0, -⟩ := cell2b HB4.out
                obtain ⟨z0, -⟩ := cell2b HO4.out.hX
                go_region_held3 (fun w' => w'.cell? ⟨X, 0, none⟩ = some (.pointer (some ⟨x, 0, none⟩)) ∧ w'.cell? ⟨b9, 0, none⟩ = some (.int .i64 (a : Int)))
                  (first | exact HC5.out | exact ⟨z0, e0⟩)
                  (first | (go_at_call 76; refine (rtk_change (HO4.out.keep0 (by (repeat (first | exact Keep.refl _ _ | exact Keep.refl _ _ | refine Keep.drew ?_ | refine Keep.drewN ?_ _ | refine Keep.alloc ?_ _ | refine Keep.setNew ?_ (by omega) _)); done)) HFN.out HQ.out.1 HQ.out.2.1 HQ.out.2.2.1 HQ.out.2.2.2).mono ?_; rintro e w5 ⟨rfl, hO5, hk5⟩; have HO5 := Lib.hid hO5; have HK5 : Hid (Keep (fun z => z = g) w4 w5) := Keep.trans ((Keep.refl (fun z => z = g) w4).drew) hk5; have HC5 : Hid (w5.cell? ⟨X, 0, none⟩ = some (.pointer (some ⟨x, 0, none⟩)) ∧ w5.cell? ⟨b9, 0, none⟩ = some (.int .i64 (a : Int))) := ⟨(cell2b hO5.hX).1, (HK5.out.cell (block_lt_cell e0) (by obtain ⟨C, hg, _⟩ := HO4.out.rx.2; exact typ_ne HB4.out hg (by decide))).trans e0⟩; clear hO5 hk5))
                all_goals
                  obtain ⟨-, e5⟩ := HC5.out
                  go_wp2
                  go_ret2
                  exact ⟨D, HI.out, .inr ⟨⟨(a : Int), (q : Int)⟩, false, HTK.out, rfl, by rw [HMM.out]; simpa using HO5.out, ((HKx.out.trans HDN.out).mono (fun _ _ h => h.elim)).trans (HK5.out.mono (fun z _ h => .inl h))⟩⟩
      | none =>
        simp only [fbm, Option.getD_none] at b0 b1
        by_cases hj2 : j < 2
        · obtain ⟨k2, ix, n1, n2, n3, n4, n5⟩ := nx_facts kd HX.out j hj2
          have hcn : wr.cell? ⟨bn, ix, none⟩ = some (.int .i64 (othj kd j)) := by rw [cell_block HBn.out]; exact n5
          have hji : decide ((j : Int) < 2) = true := by simp; omega
          have f0 : wr.frozen? ⟨b9, 0, none⟩ = false := frozen_block HB.out
          have f1 : wr.frozen? ⟨b9, 1, none⟩ = false := frozen_block HB.out
          clear n5
          go_wp2_with fail
          refine (find_any v _ (o : Int) (othj kd j) true HOr.out HVr.out (fun y hy => fine_ok (HFI.out y hy)) HL.out).mono ?_
          rintro e w6 ⟨rfl, hk6⟩
          have hn' := nxI_step HNB.out HN.out hj2
          obtain ⟨z', hz'⟩ : ∃ z', bst M (othj kd j) true (flO o (pcs M D)) = z' := ⟨_, rfl⟩
          rw [hz'] at hn' ⊢
          have HN' := Lib.hid hn'
          have HB6 := Lib.hid ((hk6.block b9 (block_lt HB.out) id).trans HB.out)
          have HBn6 := Lib.hid ((hk6.block bn (block_lt HBn.out) id).trans HBn.out)
          have HO6 := Lib.hid (HOr.out.keep0 hk6)
          have HV6 := Lib.hid (HVr.out.keep hk6 (fun _ _ => id))
          have HK6 := Lib.hid (HKr.out.trans hk6)
          clear hn' hz' hk6 b0 b1 hcn f0 f1
          obtain ⟨b0, b1⟩ := cell2b HB6.out
          have f0 : w6.frozen? ⟨b9, 0, none⟩ = false := frozen_block HB6.out
          have f1 : w6.frozen? ⟨b9, 1, none⟩ = false := frozen_block HB6.out
          have HKS : Hid (Keep (fun t => t = b9) w6 ((w6.setCell ⟨b9, 0, none⟩ (.int .i64 (fbm z').f)).setCell ⟨b9, 1, none⟩ (.int .i64 (fbm z').o))) := ((Keep.refl (fun t => t = b9) w6).setCell (p := ⟨b9, 0, none⟩) (fun _ => rfl) _).setCell (p := ⟨b9, 1, none⟩) (fun _ => rfl) _
          go_wp2
          go_roundw
          case rel => exact ⟨j + 1, z', by omega, by go_num, HN'.out, set2 HB6.out, (set2_ne (typ_ne HBn6.out HB6.out (by decide))).trans HBn6.out, rk_box HO6.out HB6.out HKS.out, HV6.out.keep HKS.out (fun t ht e => by subst e; exact HVB.out ht), keep_fresh HK6.out HKS.out (fun t ht => by subst ht; exact HSZ9.out)⟩
          case measure => (clear n1 n2; simp [intOf]; omega)
        · obtain rfl : j = 2 := by omega
          have HT := Lib.hid (nxI_none HNB.out HN.out)
          go_wp2
          go_ret2
          exact ⟨D, HI.out, .inl ⟨HT.out, rfl, HKr.out⟩⟩

end Go.Proofs.YtjffdimlbppgcaaGreat
