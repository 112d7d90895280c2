/- Memory: the program's Block, At, Drop, Turn, Set. -/
import Derived.Test.YtjffdimlbppgcaaGreatMB
set_option linter.unusedVariables false
set_option linter.unusedSimpArgs false
namespace Go.Proofs.YtjffdimlbppgcaaGreat
open Go.RowKit Go.Own

theorem used_yes {is : Int} (h : 1 ≤ is ∧ is ≤ 5) (w : World) : Calls Tryz.prog 37 #[.int .i64 is] w fun e w' => e = .returned (.bool true) ∧ w' = w := by
  have t0 : decide (0 < is) = true := by simp; omega
  have t1 : decide (is ≤ 5) = true := by simp; omega
  clear h
  go_enter Tryz.func37, Tryz.ntmps37
  go_wp2
  go_ret
  exact ⟨rfl, rfl⟩
theorem used_no {is : Int} (h : is < 1 ∨ 5 < is) (w : World) : Calls Tryz.prog 37 #[.int .i64 is] w fun e w' => e = .returned (.bool false) ∧ w' = w := by
  have hc : (decide (0 < is) = false) ∨ (decide (0 < is) = true ∧ decide (is ≤ 5) = false) := by simp; omega
  clear h
  rcases hc with t0 | ⟨t0, t1⟩
  all_goals
    go_enter Tryz.func37, Tryz.ntmps37
    go_wp2
    go_ret
    exact ⟨rfl, rfl⟩
/-- What is free has state 0, and only that; the kinds are kinds. -/
structure Lk (n : Nat) (P : PS) : Prop where
  fr : ∀ i, i < n → (P.F i = true ↔ gi P.L i = 0)
  kd : ∀ i, i < sec n → 0 ≤ P.M i ∧ P.M i ≤ 3
  ln : P.L.length = n
  st : ∀ x, x ∈ P.L → 0 ≤ x ∧ x < 6
  fin : ∀ i, P.F i = true → i < n
  wd : ∀ i, i < 8 * n → P.W i < 18446744073709551616
def badB (o x is : Int) : Prop := o < 0 ∨ 8 < o ∨ x < 0 ∨ 2 < x ∨ is < 1 ∨ 5 < is
/-- A block becomes so: what is given. -/
def gvn (P : PS) (a o is : Nat) (F : Nat → Bool) (M : Nat → Int) : PS := ⟨F, M, Fr.fillN P.L a (is : Int) (2 ^ o), zerW P.W a (2 ^ o)⟩
/-- What Block answers, and what is behind it. -/
def BlkR (A : Ad) (P : PS) (o x is : Int) (E : Value) (P1 : PS) : Prop :=
  (badB o x is ∧ E = .tuple #[.int .i64 0, .int .i64 2] ∧ P1 = P) ∨
  (¬ badB o x is ∧ spr A P < 2 ^ o.toNat ∧ E = .tuple #[.int .i64 0, .int .i64 8] ∧ P1 = P) ∨
  (¬ badB o x is ∧ ¬ spr A P < 2 ^ o.toNat ∧ ∃ D, IsBl P.F D ∧ ((tkP P.M D o x = none ∧ E = .tuple #[.int .i64 0, .int .i64 8] ∧ P1 = P) ∨
    (∃ (y : Bk) (own : Bool), tkP P.M D o x = some (y, own) ∧ E = .tuple #[.int .i64 y.f, .int .i64 0] ∧ P1 = gvn P y.f.toNat o.toNat is.toNat (subB P.F o.toNat y.f.toNat) (tkM P.M o x y own))))
theorem isBl_eq {F : Nat → Bool} {D E : List Bk} (h : IsBl F D) (k : IsBl F E) : D = E := isBl_uniq (F := F) h.1 k.1 fun x => (h.2 x).trans (k.2 x).symm
theorem BlkR.fn {A : Ad} {P P1 P2 : PS} {o x is : Int} {E E' : Value} (h : BlkR A P o x is E P1) (k : BlkR A P o x is E' P2) : E = E' ∧ P1 = P2 := by
  rcases h with ⟨a1, rfl, rfl⟩ | ⟨a1, a2, rfl, rfl⟩ | ⟨a1, a2, D, hD, h⟩ <;> rcases k with ⟨b1, rfl, rfl⟩ | ⟨b1, b2, rfl, rfl⟩ | ⟨b1, b2, D', hD', k⟩
  · exact ⟨rfl, rfl⟩
  · exact absurd a1 b1
  · exact absurd a1 b1
  · exact absurd b1 a1
  · exact ⟨rfl, rfl⟩
  · exact absurd a2 b2
  · exact absurd b1 a1
  · exact absurd b2 a2
  · obtain rfl := isBl_eq hD hD'
    rcases h with ⟨h1, rfl, rfl⟩ | ⟨y, own, h1, rfl, rfl⟩ <;> rcases k with ⟨k1, rfl, rfl⟩ | ⟨y', own', k1, rfl, rfl⟩
    · exact ⟨rfl, rfl⟩
    · rw [h1] at k1; cases k1
    · rw [h1] at k1; cases k1
    · rw [h1] at k1
      injection k1 with k1
      injection k1 with k1 k2
      subst k1; subst k2
      exact ⟨rfl, rfl⟩
theorem blk_end' {F : Nat → Bool} {n a k : Nat} (hF : ∀ i, F i = true → i < n) (hb : blk F k a) : a + 2 ^ k ≤ n := by
  have := p2 k
  have := hF (a + 2 ^ k - 1) (hb _ (by omega) (by omega))
  omega
section
variable {w w' : World} {A : Ad} {N : Nat → Prop} {P : PS}
theorem Mo.took {F' : Nat → Bool} {M' : Nat → Int} (h : Mo w A N P) (ko : KO w' A.B A.k A.b A.kr A.n F' M' N) (k : KT3 A.B A.b A.kr N w w') : Mo w' A N { P with F := F', M := M' } ∧ Keep (PC A N w) w w' := by
  obtain ⟨c1, t1⟩ := h.ko.bf.hp
  obtain ⟨c4, t4⟩ := h.ko.mt.typ
  obtain ⟨c2, t2⟩ := h.ra.mb.typ
  have hne : ∀ {b e : Nat} {c : Array Value}, w.heap[b]? = some (.cells c e (0, 0)) → e ≠ 118 ∧ e ≠ 3 → ¬ (b = A.b ∨ GK A.B N w b ∨ b = A.kr) := by
    rintro b e c hb ⟨e1, e2⟩ (rfl | ⟨_, c8, h8⟩ | rfl)
    · exact typ_ne hb t1 e1 rfl
    · exact typ_ne hb h8 e2 rfl
    · exact typ_ne hb t4 e2 rfl
  refine ⟨⟨(k.block A.m (block_lt h.hm) (hne h.hm (by decide))).trans h.hm, ko, h.ra.keep k (hne h.ra.hr (by decide)) (hne t2 (by decide)),
    ⟨(k.block A.f (block_lt h.rf.hp) (hne h.rf.hp (by decide))).trans h.rf.hp, (k.block A.q (block_lt h.rf.hq) ?_).trans h.rf.hq, h.rf.ne, h.rf.lo, h.rf.hi, h.rf.st⟩, h.ln, h.nq, h.ne, h.mk8, h.bm⟩, k.mono ?_⟩
  · rintro (e | ⟨⟨_, _, h8⟩, _⟩ | e)
    · exact typ_ne h.rf.hq t1 (by decide) e
    · exact h8 h.nq
    · exact h.ne e.symm
  · rintro z _ (rfl | hz | rfl)
    · exact .inl rfl
    · exact .inr (.inr (.inr (.inr (.inr hz))))
    · exact .inr (.inr (.inr (.inl rfl)))
theorem pc_given {w1 : World} (h : Keep (PC A N w) w w') (k : Keep (fun z => z = A.f ∨ z = A.q ∨ z = A.rb) w' w1) : Keep (PC A N w) w w1 := h.trans (k.mono fun z _ e => by
  rcases e with rfl | rfl | rfl
  · exact .inr (.inr (.inl rfl))
  · exact .inr (.inr (.inr (.inr (.inl rfl))))
  · exact .inr (.inl rfl))
end
theorem pc_on {w w1 w2 : World} {A : Ad} {N : Nat → Prop} (K : Keep (fun _ => False) w w1) (k : Keep (PC A N w1) w1 w2) : Keep (PC A N w) w w2 := by
  refine ⟨k.os.trans K.os, k.tape.trans K.tape, k.output.trans K.output, Nat.le_trans K.size k.size, fun z hz hs => ?_⟩
  rw [k.block z (Nat.lt_of_lt_of_le hz K.size) ?_]
  · exact K.block z hz id
  · rintro (h | h | h | h | h | ⟨⟨h1, _, h3⟩, c, h2⟩)
    · exact hs (.inl h)
    · exact hs (.inr (.inl h))
    · exact hs (.inr (.inr (.inl h)))
    · exact hs (.inr (.inr (.inr (.inl h))))
    · exact hs (.inr (.inr (.inr (.inr (.inl h)))))
    · exact hs (.inr (.inr (.inr (.inr (.inr ⟨⟨h1, hz, h3⟩, c, (K.block z hz id).symm.trans h2⟩)))))
theorem bad_cases {o x is : Int} (h : badB o x is) : (decide (o < 0) = true) ∨ (decide (o < 0) = false ∧ decide (8 < o) = true) ∨ (decide (o < 0) = false ∧ decide (8 < o) = false ∧ decide (x < 0) = true) ∨ (decide (o < 0) = false ∧ decide (8 < o) = false ∧ decide (x < 0) = false ∧ decide (2 < x) = true) ∨
    (decide (o < 0) = false ∧ decide (8 < o) = false ∧ decide (x < 0) = false ∧ decide (2 < x) = false ∧ (is < 1 ∨ 5 < is)) := by
  unfold badB at h
  simp only [decide_eq_true_eq, decide_eq_false_iff_not]
  omega
set_option maxHeartbeats 1000000 in
theorem block_bad (m : Nat) (o x is : Int) (h : badB o x is) (w : World) : Calls Tryz.prog 15 #[.pointer (some ⟨m, 0, none⟩), .int .i64 o, .int .i64 x, .int .i64 is] w fun e w' => e = .returned (.tuple #[.int .i64 0, .int .i64 2]) ∧ w' = w := by
  rcases bad_cases h with t0 | ⟨t0, t1⟩ | ⟨t0, t1, t2⟩ | ⟨t0, t1, t2, t3⟩ | ⟨t0, t1, t2, t3, h5⟩
  all_goals
    clear h
    go_enter Tryz.func15, Tryz.ntmps15
    go_wp2_with (go_at_call 37; refine (used_no h5 _).mono ?_; rintro e w1 ⟨rfl, rfl⟩)
    go_ret2
    exact ⟨rfl, rfl⟩

theorem tkP_fine {F : Nat → Bool} {M : Nat → Int} {D : List Bk} {n o : Nat} {x : Int} {y : Bk} {own : Bool} (hb : IsBl F D) (hF : ∀ i, F i = true → i < n) (h : tkP M D o x = some (y, own)) : fineP F n y ∧ (o : Int) ≤ y.o := by
  have hm : y ∈ pcO M D o := by
    unfold tkP at h
    cases h1 : bst M x false (pcO M D o) with
    | some z => simp only [h1] at h; injection h with h; injection h with h _; subst h; exact (bst_in h1).1
    | none =>
      cases h2 : bst M (oth2 x).1 true (pcO M D o) with
      | some z => simp only [h1, h2] at h; injection h with h; injection h with h _; subst h; exact (bst_in h2).1
      | none =>
        cases h3 : bst M (oth2 x).2 true (pcO M D o) with
        | some z => simp only [h1, h2, h3] at h; injection h with h; injection h with h _; subst h; exact (bst_in h3).1
        | none => simp only [h1, h2, h3] at h; cases h
  exact pcO_fine hb hF hm
theorem lk_free {P : PS} {n a o : Nat} (h : Lk n P) (ha : a + 2 ^ o ≤ n) (hb : ∀ i, a ≤ i → i < a + 2 ^ o → P.F i = true) : Fr.allAre P.L a (2 ^ o) 0 := fun j hj => (h.fr (a + j) (by omega)).mp (hb (a + j) (by omega) (by omega))

set_option maxRecDepth 100000 in
set_option maxHeartbeats 2000000 in
theorem block_any {w : World} {A : Ad} {N : Nat → Prop} {P : PS} (o x is : Int) (h : Mo w A N P) (lk : Lk A.n P) :
    Calls Tryz.prog 15 #[.pointer (some ⟨A.m, 0, none⟩), .int .i64 o, .int .i64 x, .int .i64 is] w fun e w' => ∃ E P1, e = .returned E ∧ BlkR A P o x is E P1 ∧ Mo w' A N P1 ∧ Keep (PC A N w) w w' := by
  by_cases hbad : badB o x is
  · refine (block_bad A.m o x is hbad w).mono ?_
    rintro e w' ⟨rfl, rfl⟩
    exact ⟨_, P, rfl, .inl ⟨hbad, rfl, rfl⟩, h, Keep.refl _ _⟩
  have hb := hbad
  unfold badB at hb
  obtain ⟨q, rfl⟩ := Int.eq_ofNat_of_zero_le (show 0 ≤ o by omega)
  obtain ⟨is, rfl⟩ := Int.eq_ofNat_of_zero_le (show 0 ≤ is by omega)
  have hq8 : q ≤ 8 := by omega
  have hx : x = 0 ∨ x = 1 ∨ x = 2 := by omega
  have his : 1 ≤ is ∧ is ≤ 5 := by omega
  have t0 : decide ((q : Int) < 0) = false := by simp
  have t1 : decide ((8 : Int) < (q : Int)) = false := by simp; omega
  have t1n : decide (8 < q) = false := by simp; omega
  have t2 : decide (x < 0) = false := by simp; omega
  have t3 : decide (2 < x) = false := by simp; omega
  have HU : Hid (∀ W, Calls Tryz.prog 37 #[.int .i64 (is : Int)] W fun e w' => e = .returned (.bool true) ∧ w' = W) := fun W => used_yes (by omega) W
  obtain ⟨p1, p2⟩ := pw_w q hq8
  obtain ⟨p3, p4⟩ := pw q hq8
  obtain ⟨p, hp⟩ : ∃ p, 2 ^ q = p := ⟨_, rfl⟩
  obtain ⟨s, hs⟩ : ∃ s, spr A P = s := ⟨_, rfl⟩
  rw [hp] at p1 p2 p3 p4
  have i0 : (0 : Int) ≤ q := by omega
  have i8 : (q : Int) ≤ 8 := by omega
  have HM := Lib.hid h
  have HK := Lib.hid lk
  have HC := Lib.hid (And.intro hq8 (And.intro hx his))
  have HP := Lib.hid hp
  have HSP := Lib.hid hs
  have HBAD := Lib.hid hbad
  have HM1 : Hid (w.cell? ⟨A.m, 1, none⟩ = some (.pointer (some ⟨A.k, 0, none⟩))) := (cells4 h.hm).2.1
  have hcase : s < p ∨ p ≤ s := by omega
  clear h lk hbad hb hq8 hx his hp hs
  rcases hcase with hc | hc
  · have t4 : decide ((s : Int) < (p : Int)) = true := by simp; omega
    have t4n : decide (s < p) = true := by simp; omega
    have HCC := Lib.hid hc
    clear hc
    go_enter Tryz.func15, Tryz.ntmps15
    go_wp2_with (go_at_call 37; refine (HU.out _).mono ?_; rintro e w1 ⟨rfl, rfl⟩)
    go_region_held3 (fun w' => w'.cell? ⟨A.m, 1, none⟩ = some (.pointer (some ⟨A.k, 0, none⟩)))
      (first | exact HC5.out | exact HM1.out)
      (first | (go_at_call 10; refine (spare_any (HM.out.keep0 (by (repeat (first | exact Keep.refl _ _ | exact Keep.refl _ _ | refine Keep.drew ?_ | refine Keep.drewN ?_ _ | refine Keep.alloc ?_ _ | refine Keep.setNew ?_ (by omega) _)); done))).mono ?_; rw [HSP.out]; rintro e w5 ⟨rfl, hk5⟩; have HK5 : Hid (Keep (fun _ => False) w1 w5) := Keep.trans (by (repeat (first | exact Keep.refl _ _ | exact Keep.refl _ _ | refine Keep.drew ?_ | refine Keep.drewN ?_ _ | refine Keep.alloc ?_ _ | refine Keep.setNew ?_ (by omega) _)); done) hk5; have HC5 : Hid (w5.cell? ⟨A.m, 1, none⟩ = some (.pointer (some ⟨A.k, 0, none⟩))) := (HK5.out.cell (block_lt_cell HM1.out) id).trans HM1.out; clear hk5))
    all_goals
      go_wp2
      go_ret2
      exact ⟨_, P, rfl, .inr (.inl ⟨HBAD.out, by rw [HSP.out]; simpa [HP.out] using HCC.out, rfl, rfl⟩), HM.out.keep0 HK5.out, HK5.out.mono fun _ _ h => h.elim⟩
  · have t4 : decide ((s : Int) < (p : Int)) = false := by simp; omega
    have t4n : decide (s < p) = false := by simp; omega
    have HCC := Lib.hid hc
    clear hc
    go_enter Tryz.func15, Tryz.ntmps15
    go_wp2_with (go_at_call 37; refine (HU.out _).mono ?_; rintro e w1 ⟨rfl, rfl⟩)
    go_region_held3 (fun w' => w'.cell? ⟨A.m, 1, none⟩ = some (.pointer (some ⟨A.k, 0, none⟩)))
      (first | exact HC5.out | exact HM1.out)
      (first | (go_at_call 10; refine (spare_any (HM.out.keep0 (by (repeat (first | exact Keep.refl _ _ | exact Keep.refl _ _ | refine Keep.drew ?_ | refine Keep.drewN ?_ _ | refine Keep.alloc ?_ _ | refine Keep.setNew ?_ (by omega) _)); done))).mono ?_; rw [HSP.out]; rintro e w5 ⟨rfl, hk5⟩; have HK5 : Hid (Keep (fun _ => False) w1 w5) := Keep.trans (by (repeat (first | exact Keep.refl _ _ | exact Keep.refl _ _ | refine Keep.drew ?_ | refine Keep.drewN ?_ _ | refine Keep.alloc ?_ _ | refine Keep.setNew ?_ (by omega) _)); done) hk5; have HC5 : Hid (w5.cell? ⟨A.m, 1, none⟩ = some (.pointer (some ⟨A.k, 0, none⟩))) := (HK5.out.cell (block_lt_cell HM1.out) id).trans HM1.out; clear hk5))
    all_goals
      have HM5 := Lib.hid (HM.out.keep0 HK5.out)
      have m1 := HC5.out
      go_wp2_with fail
      refine (ktake_any q x (HM5.out.keep0 (by (repeat (first | exact Keep.refl _ _ | exact Keep.refl _ _ | refine Keep.drew ?_ | refine Keep.drewN ?_ _ | refine Keep.alloc ?_ _ | refine Keep.setNew ?_ (by omega) _)); done)).ko HC.out.1 HC.out.2.1).mono ?_
      rintro e w6 ⟨D, hD, ⟨ht, rfl, hk6⟩ | ⟨y, own, ht, rfl, ko6, hk6⟩⟩
      · have HK6 : Hid (Keep (fun _ => False) w1 w6) := HK5.out.trans (Keep.trans (by (repeat (first | exact Keep.refl _ _ | exact Keep.refl _ _ | refine Keep.drew ?_ | refine Keep.drewN ?_ _ | refine Keep.alloc ?_ _ | refine Keep.setNew ?_ (by omega) _)); done) hk6)
        have HT := Lib.hid (And.intro hD ht)
        clear hD ht hk6 m1
        go_wp2
        go_ret2
        exact ⟨_, P, rfl, .inr (.inr ⟨HBAD.out, by rw [HSP.out]; have := HCC.out; simp [HP.out]; omega, D, HT.out.1, .inl ⟨HT.out.2, rfl, rfl⟩⟩), HM.out.keep0 HK6.out, HK6.out.mono fun _ _ h => h.elim⟩
      · obtain ⟨⟨a, k, rfl, hk8', hak, hbk, hend⟩, hok⟩ := tkP_fine hD HK.out.fin ht
        simp only [Int.toNat_natCast] at ko6
        have hle : 2 ^ q ≤ 2 ^ k := Nat.pow_le_pow_right (by decide) (by simpa using hok)
        obtain ⟨hm6, hpc6⟩ := Mo.took (HM5.out.keep0 (by (repeat (first | exact Keep.refl _ _ | exact Keep.refl _ _ | refine Keep.drew ?_ | refine Keep.drewN ?_ _ | refine Keep.alloc ?_ _ | refine Keep.setNew ?_ (by omega) _)); done)) ko6 hk6
        have HM6 := Lib.hid hm6
        have HPC6 : Hid (Keep (PC A N w1) w1 w6) := pc_on (HK5.out.trans (by (repeat (first | exact Keep.refl _ _ | exact Keep.refl _ _ | refine Keep.drew ?_ | refine Keep.drewN ?_ _ | refine Keep.alloc ?_ _ | refine Keep.setNew ?_ (by omega) _)); done)) hpc6
        have HAL : Hid (Fr.allAre P.L a (2 ^ q) 0) := lk_free HK.out (by omega) (fun i h1 h2 => hbk i h1 (by omega))
        have HEND : Hid (a + 2 ^ q ≤ A.n) := by unfold Hid; omega
        have HT := Lib.hid (And.intro hD ht)
        clear hD ht hk6 ko6 hm6 hpc6 m1 hk8' hak hbk hend hok hle
        go_wp2_with (go_at_call 39; refine (given_ok (HM6.out.keep0 (by (repeat (first | exact Keep.refl _ _ | exact Keep.refl _ _ | refine Keep.drew ?_ | refine Keep.drewN ?_ _ | refine Keep.alloc ?_ _ | refine Keep.setNew ?_ (by omega) _)); done)) HC.out.1 HEND.out HAL.out HC.out.2.2.1 HC.out.2.2.2).mono ?_; rintro e w7 ⟨rfl, hm7, hk7⟩; have HM7 := Lib.hid hm7; have HK7 := Lib.hid (pc_given HPC6.out (Keep.trans (S := fun z => z = A.f ∨ z = A.q ∨ z = A.rb) (by (repeat (first | exact Keep.refl _ _ | exact Keep.refl _ _ | refine Keep.drew ?_ | refine Keep.drewN ?_ _ | refine Keep.alloc ?_ _ | refine Keep.setNew ?_ (by omega) _)); done) hk7)); clear hm7 hk7)
        go_ret2
        exact ⟨_, _, rfl, .inr (.inr ⟨HBAD.out, by rw [HSP.out]; have := HCC.out; simp [HP.out]; omega, D, HT.out.1, .inr ⟨_, own, HT.out.2, rfl, rfl⟩⟩), HM7.out, HK7.out⟩

end Go.Proofs.YtjffdimlbppgcaaGreat
