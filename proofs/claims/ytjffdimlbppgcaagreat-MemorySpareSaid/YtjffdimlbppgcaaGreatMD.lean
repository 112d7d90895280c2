/- Memory: the program's At, Drop, Turn, Set. -/
import Derived.Test.YtjffdimlbppgcaaGreatMC
set_option linter.unusedVariables false
set_option linter.unusedSimpArgs false
namespace Go.Proofs.YtjffdimlbppgcaaGreat
open Go.RowKit Go.Own

def AtR (A : Ad) (P : PS) (f o is : Int) (E : Value) (P1 : PS) : Prop :=
  ((is < 1 ∨ 5 < is) ∧ E = .int .i64 2 ∧ P1 = P) ∨ ((1 ≤ is ∧ is ≤ 5) ∧ wrE A.n f o ≠ 0 ∧ E = .int .i64 (wrE A.n f o) ∧ P1 = P) ∨
  ((1 ≤ is ∧ is ≤ 5) ∧ wrE A.n f o = 0 ∧ ∃ f' o' : Nat, f = f' ∧ o = o' ∧ ((¬ blk P.F o' f' ∧ E = .int .i64 12 ∧ P1 = P) ∨ (blk P.F o' f' ∧ E = .int .i64 0 ∧ P1 = gvn P f' o' is.toNat (subB P.F o' f') P.M)))
theorem AtR.fn {A : Ad} {P P1 P2 : PS} {f o is : Int} {E E' : Value} (h : AtR A P f o is E P1) (k : AtR A P f o is E' P2) : E = E' ∧ P1 = P2 := by
  rcases h with ⟨a1, rfl, rfl⟩ | ⟨a1, a2, rfl, rfl⟩ | ⟨a1, a2, f1, o1, e1, e2, h⟩ <;> rcases k with ⟨b1, rfl, rfl⟩ | ⟨b1, b2, rfl, rfl⟩ | ⟨b1, b2, f2, o2, e3, e4, k⟩
  · exact ⟨rfl, rfl⟩
  · omega
  · omega
  · omega
  · exact ⟨rfl, rfl⟩
  · exact absurd b2 a2
  · omega
  · exact absurd a2 b2
  · obtain rfl : f1 = f2 := by omega
    obtain rfl : o1 = o2 := by omega
    rcases h with ⟨h1, rfl, rfl⟩ | ⟨h1, rfl, rfl⟩ <;> rcases k with ⟨k1, rfl, rfl⟩ | ⟨k1, rfl, rfl⟩
    · exact ⟨rfl, rfl⟩
    · exact absurd k1 h1
    · exact absurd h1 k1
    · exact ⟨rfl, rfl⟩
def noF (F : Nat → Bool) (o f : Nat) : Prop := ∀ i, f ≤ i → i < f + 2 ^ o → F i = false
def DrR (A : Ad) (P : PS) (f o : Int) (E : Value) (P1 : PS) : Prop :=
  (wrE A.n f o ≠ 0 ∧ E = .int .i64 (wrE A.n f o) ∧ P1 = P) ∨
  (wrE A.n f o = 0 ∧ ∃ f' o' : Nat, f = f' ∧ o = o' ∧ ((¬ noF P.F o' f' ∧ E = .int .i64 12 ∧ P1 = P) ∨ (noF P.F o' f' ∧ E = .int .i64 0 ∧ P1 = ⟨addB P.F o' f', P.M, Fr.fillN P.L f' 0 (2 ^ o'), P.W⟩)))
theorem DrR.fn {A : Ad} {P P1 P2 : PS} {f o : Int} {E E' : Value} (h : DrR A P f o E P1) (k : DrR A P f o E' P2) : E = E' ∧ P1 = P2 := by
  rcases h with ⟨a2, rfl, rfl⟩ | ⟨a2, f1, o1, e1, e2, h⟩ <;> rcases k with ⟨b2, rfl, rfl⟩ | ⟨b2, f2, o2, e3, e4, k⟩
  · exact ⟨rfl, rfl⟩
  · exact absurd b2 a2
  · exact absurd a2 b2
  · obtain rfl : f1 = f2 := by omega
    obtain rfl : o1 = o2 := by omega
    rcases h with ⟨h1, rfl, rfl⟩ | ⟨h1, rfl, rfl⟩ <;> rcases k with ⟨k1, rfl, rfl⟩ | ⟨k1, rfl, rfl⟩
    · exact ⟨rfl, rfl⟩
    · exact absurd k1 h1
    · exact absurd h1 k1
    · exact ⟨rfl, rfl⟩
def TuR (P : PS) (f n a b : Int) (E : Value) (P1 : PS) : Prop :=
  ((a = 0 ∨ b = 0) ∧ E = .int .i64 2 ∧ P1 = P) ∨ (¬ (a = 0 ∨ b = 0) ∧ E = .int .i64 (Fr.turnE P.L f n a b) ∧ P1 = { P with L := Fr.turnL P.L f n a b })
theorem TuR.fn {P P1 P2 : PS} {f n a b : Int} {E E' : Value} (h : TuR P f n a b E P1) (k : TuR P f n a b E' P2) : E = E' ∧ P1 = P2 := by
  rcases h with ⟨a1, rfl, rfl⟩ | ⟨a1, rfl, rfl⟩ <;> rcases k with ⟨b1, rfl, rfl⟩ | ⟨b1, rfl, rfl⟩
  · exact ⟨rfl, rfl⟩
  · exact absurd a1 b1
  · exact absurd b1 a1
  · exact ⟨rfl, rfl⟩
def SeR (A : Ad) (P : PS) (i y : Int) (E : Value) (P1 : PS) : Prop :=
  ((i < 0 ∨ (sec A.n : Int) ≤ i) ∧ E = .int .i64 3 ∧ P1 = P) ∨ ((0 ≤ i ∧ i < (sec A.n : Int)) ∧ (y < 0 ∨ 3 < y) ∧ E = .int .i64 2 ∧ P1 = P) ∨
  ((0 ≤ i ∧ i < (sec A.n : Int)) ∧ (0 ≤ y ∧ y ≤ 3) ∧ E = .int .i64 0 ∧ P1 = { P with M := setM P.M i.toNat y })
theorem SeR.fn {A : Ad} {P P1 P2 : PS} {i y : Int} {E E' : Value} (h : SeR A P i y E P1) (k : SeR A P i y E' P2) : E = E' ∧ P1 = P2 := by
  rcases h with ⟨a1, rfl, rfl⟩ | ⟨a1, a2, rfl, rfl⟩ | ⟨a1, a2, rfl, rfl⟩ <;> rcases k with ⟨b1, rfl, rfl⟩ | ⟨b1, b2, rfl, rfl⟩ | ⟨b1, b2, rfl, rfl⟩ <;> first | exact ⟨rfl, rfl⟩ | omega
section
variable {w : World} {A : Ad} {N : Nat → Prop} {P : PS}
theorem kb3_pc {w w' : World} (k : KB3 A.B A.b N w w') : Keep (PC A N w) w w' := k.mono fun z _ h => h.elim .inl fun h => .inr (.inr (.inr (.inr (.inr h))))
theorem mo_kb3 {w' : World} {F' : Nat → Bool} (h : Mo w A N P) (ko : KO w' A.B A.k A.b A.kr A.n F' P.M N) (k : KB3 A.B A.b N w w') : Mo w' A N { P with F := F' } ∧ Keep (PC A N w) w w' :=
  h.took ko (k.mono fun z _ h => h.imp id .inl)
/-- TakeAt of the program's kinds. -/
theorem ktakeAt_any (f o : Int) (h : Mo w A N P) : Calls Tryz.prog 75 #[.pointer (some ⟨A.k, 0, none⟩), .int .i64 f, .int .i64 o] w fun e w' => ∃ er : Int, e = .returned (.int .i64 er) ∧
    ((wrE A.n f o ≠ 0 ∧ er = wrE A.n f o ∧ Keep (fun _ => False) w w') ∨ (wrE A.n f o = 0 ∧ ∃ f' o' : Nat, f = f' ∧ o = o' ∧ o' ≤ 8 ∧ f' + 2 ^ o' ≤ A.n ∧ ((¬ blk P.F o' f' ∧ er = 12 ∧ Keep (fun _ => False) w w') ∨ (blk P.F o' f' ∧ er = 0 ∧ Mo w' A N { P with F := subB P.F o' f' } ∧ Keep (PC A N w) w w')))) := by
  refine kat_pass f o h.ko _ ?_
  by_cases hw : wrE A.n f o = 0
  · obtain ⟨f', o', rfl, rfl, ho, hfo, hfn⟩ := wrE_ok hw
    by_cases hb : blk P.F o' f'
    · refine (takeAt_ok h.ko.hB h.ko.bf (fun z hz => hz.1.2.1) hw ho hfo hfn hb).mono ?_
      rintro e w' ⟨rfl, ht⟩
      obtain ⟨h1, h2⟩ := h.ko.took ht
      obtain ⟨h3, h4⟩ := mo_kb3 h h1 h2
      exact ⟨0, rfl, .inr ⟨hw, f', o', rfl, rfl, ho, hfn, .inr ⟨hb, rfl, h3, h4⟩⟩⟩
    · refine (takeAt_busy h.ko.bf hw ho hfo hfn hb).mono ?_
      rintro e w' ⟨rfl, hk⟩
      exact ⟨12, rfl, .inr ⟨hw, f', o', rfl, rfl, ho, hfn, .inl ⟨hb, rfl, hk⟩⟩⟩
  · refine (takeAt_bad f o h.ko.bf hw).mono ?_
    rintro e w' ⟨rfl, hk⟩
    exact ⟨_, rfl, .inl ⟨hw, rfl, hk⟩⟩
theorem kgive_any (f o : Int) (h : Mo w A N P) : Calls Tryz.prog 58 #[.pointer (some ⟨A.k, 0, none⟩), .int .i64 f, .int .i64 o] w fun e w' => ∃ er : Int, e = .returned (.int .i64 er) ∧
    ((wrE A.n f o ≠ 0 ∧ er = wrE A.n f o ∧ Keep (fun _ => False) w w') ∨ (wrE A.n f o = 0 ∧ ∃ f' o' : Nat, f = f' ∧ o = o' ∧ o' ≤ 8 ∧ f' + 2 ^ o' ≤ A.n ∧ ((¬ noF P.F o' f' ∧ er = 12 ∧ Keep (fun _ => False) w w') ∨ (noF P.F o' f' ∧ er = 0 ∧ Mo w' A N { P with F := addB P.F o' f' } ∧ Keep (PC A N w) w w')))) := by
  refine kgive_pass f o h.ko _ ?_
  by_cases hw : wrE A.n f o = 0
  · obtain ⟨f', o', rfl, rfl, ho, hfo, hfn⟩ := wrE_ok hw
    by_cases hb : noF P.F o' f'
    · refine (give_ok h.ko.hB h.ko.bf (fun z hz => hz.1.2.1) hw ho hfo hfn hb).mono ?_
      rintro e w' ⟨rfl, ht⟩
      obtain ⟨h1, h2⟩ := h.ko.took ht
      obtain ⟨h3, h4⟩ := mo_kb3 h h1 h2
      exact ⟨0, rfl, .inr ⟨hw, f', o', rfl, rfl, ho, hfn, .inr ⟨hb, rfl, h3, h4⟩⟩⟩
    · refine (give_busy h.ko.bf hw ho hfn hb).mono ?_
      rintro e w' ⟨rfl, hk⟩
      exact ⟨12, rfl, .inr ⟨hw, f', o', rfl, rfl, ho, hfn, .inl ⟨hb, rfl, hk⟩⟩⟩
  · refine (give_bad f o h.ko.bf hw).mono ?_
    rintro e w' ⟨rfl, hk⟩
    exact ⟨_, rfl, .inl ⟨hw, rfl, hk⟩⟩
end
theorem wrE_pos {n : Nat} {f o : Int} (h : wrE n f o ≠ 0) : wrE n f o = 2 ∨ wrE n f o = 3 := by
  unfold wrE at h ⊢
  split
  · exact .inl rfl
  · rename_i h1
    rw [if_neg h1] at h
    split
    · exact .inr rfl
    · rename_i h2
      rw [if_neg h2] at h
      exact absurd rfl h
set_option maxRecDepth 100000 in
set_option maxHeartbeats 2000000 in
theorem at_any {w : World} {A : Ad} {N : Nat → Prop} {P : PS} (f o is : Int) (h : Mo w A N P) (lk : Lk A.n P) :
    Calls Tryz.prog 46 #[.pointer (some ⟨A.m, 0, none⟩), .int .i64 f, .int .i64 o, .int .i64 is] w fun e w' => ∃ E P1, e = .returned E ∧ AtR A P f o is E P1 ∧ Mo w' A N P1 ∧ Keep (PC A N w) w w' := by
  have HM := Lib.hid h
  have HK := Lib.hid lk
  have m1 := (cells4 h.hm).2.1
  by_cases his : is < 1 ∨ 5 < is
  · have HI := Lib.hid his
    clear h lk his
    go_enter Tryz.func46, Tryz.ntmps46
    go_wp2_with (go_at_call 37; refine (used_no HI.out _).mono ?_; rintro e w1 ⟨rfl, rfl⟩)
    go_ret
    exact ⟨_, P, rfl, .inl ⟨HI.out, rfl, rfl⟩, HM.out, Keep.refl _ _⟩
  have HI : Hid (1 ≤ is ∧ is ≤ 5) := by unfold Hid; omega
  clear h lk his
  go_enter Tryz.func46, Tryz.ntmps46
  go_wp2_with (first | (go_at_call 37; refine (used_yes HI.out _).mono ?_; rintro e w1 ⟨rfl, rfl⟩) | fail)
  refine (ktakeAt_any f o (HM.out.keep0 (by (repeat (first | exact Keep.refl _ _ | exact Keep.refl _ _ | refine Keep.drew ?_ | refine Keep.drewN ?_ _ | refine Keep.alloc ?_ _ | refine Keep.setNew ?_ (by omega) _)); done))).mono ?_
  rintro e w5 ⟨er, rfl, ⟨hw, rfl, hk⟩ | ⟨hw, f', o', rfl, rfl, ho, hfn, ⟨hb, rfl, hk⟩ | ⟨hb, rfl, hm5, hk⟩⟩⟩
  · have HW := Lib.hid hw
    have HK5 : Hid (Keep (fun _ => False) w1 w5) := Keep.trans (by (repeat (first | exact Keep.refl _ _ | exact Keep.refl _ _ | refine Keep.drew ?_ | refine Keep.drewN ?_ _ | refine Keep.alloc ?_ _ | refine Keep.setNew ?_ (by omega) _)); done) hk
    have t0 : (wrE A.n f o == 0) = false := by simpa using hw
    clear hw hk m1
    obtain ⟨z, hz⟩ : ∃ z, wrE A.n f o = z := ⟨_, rfl⟩
    have HZ := Lib.hid hz
    rw [hz] at t0 ⊢
    have t1 : (z != 0) = true := by simpa using t0
    clear hz
    go_wp2
    go_ret
    exact ⟨.int .i64 z, P, rfl, .inr (.inl ⟨HI.out, HW.out, by rw [HZ.out], rfl⟩), HM.out.keep0 HK5.out, HK5.out.mono fun _ _ h => h.elim⟩
  · have HW := Lib.hid (And.intro hw hb)
    have HK5 : Hid (Keep (fun _ => False) w1 w5) := Keep.trans (by (repeat (first | exact Keep.refl _ _ | exact Keep.refl _ _ | refine Keep.drew ?_ | refine Keep.drewN ?_ _ | refine Keep.alloc ?_ _ | refine Keep.setNew ?_ (by omega) _)); done) hk
    clear hw hk m1 hb
    go_wp2
    go_ret
    exact ⟨_, P, rfl, .inr (.inr ⟨HI.out, HW.out.1, f', o', rfl, rfl, .inl ⟨HW.out.2, rfl, rfl⟩⟩), HM.out.keep0 HK5.out, HK5.out.mono fun _ _ h => h.elim⟩
  · obtain ⟨is, rfl⟩ := Int.eq_ofNat_of_zero_le (show 0 ≤ is by have := HI.out; omega)
    have HI2 : Hid (1 ≤ is ∧ is ≤ 5) := by have := HI.out; unfold Hid; omega
    have HW := Lib.hid (And.intro hw hb)
    have HM5 := Lib.hid hm5
    have HK5 := Lib.hid (pc_on (w := w1) (by (repeat (first | exact Keep.refl _ _ | exact Keep.refl _ _ | refine Keep.drew ?_ | refine Keep.drewN ?_ _ | refine Keep.alloc ?_ _ | refine Keep.setNew ?_ (by omega) _)); done) hk)
    have HO := Lib.hid (And.intro ho hfn)
    have HAL : Hid (Fr.allAre P.L f' (2 ^ o') 0) := lk_free HK.out hfn hb
    clear hw hb hm5 hk ho hfn m1
    go_wp2_with (go_at_call 39; refine (given_ok (HM5.out.keep0 (by (repeat (first | exact Keep.refl _ _ | exact Keep.refl _ _ | refine Keep.drew ?_ | refine Keep.drewN ?_ _ | refine Keep.alloc ?_ _ | refine Keep.setNew ?_ (by omega) _)); done)) HO.out.1 HO.out.2 HAL.out HI2.out.1 HI2.out.2).mono ?_; rintro e w7 ⟨rfl, hm7, hk7⟩; have HM7 := Lib.hid hm7; have HK7 := Lib.hid (pc_given HK5.out (Keep.trans (S := fun z => z = A.f ∨ z = A.q ∨ z = A.rb) (by (repeat (first | exact Keep.refl _ _ | exact Keep.refl _ _ | refine Keep.drew ?_ | refine Keep.drewN ?_ _ | refine Keep.alloc ?_ _ | refine Keep.setNew ?_ (by omega) _)); done) hk7)); clear hm7 hk7)
    go_ret
    exact ⟨_, _, rfl, .inr (.inr ⟨HI.out, HW.out.1, f', o', rfl, rfl, .inr ⟨HW.out.2, rfl, rfl⟩⟩), HM7.out, HK7.out⟩

theorem turnE_one {L : List Int} {f : Nat} {a : Int} (hf : f < L.length) (ha : gi L f = a) (h1 : 0 < a) (h5 : a < 6) : Fr.turnE L (f : Int) 1 a 0 = 0 ∧ Fr.turnL L (f : Int) 1 a 0 = Fr.fillN L f 0 1 := by
  have e : Fr.turnE L (f : Int) 1 a 0 = 0 := by
    unfold Fr.turnE
    rw [if_neg (by rw [Fr.stateB_iff_f, Fr.stateB_iff_f]; omega), if_neg (by omega), if_neg (by simp [Fr.mayB]; omega), if_pos (by
      intro j hj
      obtain rfl : j = 0 := by omega
      simpa using ha)]
  refine ⟨e, ?_⟩
  unfold Fr.turnL
  rw [if_pos e]; simp
theorem fillN_step (L : List Int) (f : Nat) (b : Int) (k : Nat) : Fr.fillN (Fr.fillN L f b k) (f + k) b 1 = Fr.fillN L f b (k + 1) := by
  simp [Fr.fillN]
theorem isF_in {L : List Int} {f : Nat} (hf : f < L.length) : Fr.isF L (f : Int) = gi L f := by
  unfold Fr.isF
  rw [if_neg (by omega)]; simp
theorem lk_held {P : PS} {n i : Nat} (h : Lk n P) (hi : i < n) (hF : P.F i = false) : 0 < gi P.L i ∧ gi P.L i < 6 := by
  have h1 : gi P.L i ≠ 0 := fun e => by have := (h.fr i hi).mpr e; rw [hF] at this; cases this
  have h2 := h.st (gi P.L i) (by rw [gi_eq (by rw [h.ln]; exact hi)]; exact List.getElem_mem _)
  omega
set_option maxRecDepth 100000 in
set_option maxHeartbeats 2000000 in
theorem mdrop_any {w : World} {A : Ad} {N : Nat → Prop} {P : PS} (f o : Int) (h : Mo w A N P) (lk : Lk A.n P) :
    Calls Tryz.prog 23 #[.pointer (some ⟨A.m, 0, none⟩), .int .i64 f, .int .i64 o] w fun e w' => ∃ E P1, e = .returned E ∧ DrR A P f o E P1 ∧ Mo w' A N P1 ∧ Keep (PC A N w) w w' := by
  have HM := Lib.hid h
  have HK := Lib.hid lk
  have m1 := (cells4 h.hm).2.1
  clear h lk
  go_enter Tryz.func23, Tryz.ntmps23
  go_wp2_with fail
  refine (kgive_any f o (HM.out.keep0 (by (repeat (first | exact Keep.refl _ _ | exact Keep.refl _ _ | refine Keep.drew ?_ | refine Keep.drewN ?_ _ | refine Keep.alloc ?_ _ | refine Keep.setNew ?_ (by omega) _)); done))).mono ?_
  rintro e w5 ⟨er, rfl, ⟨hw, rfl, hk⟩ | ⟨hw, f', o', rfl, rfl, ho, hfn, ⟨hb, rfl, hk⟩ | ⟨hb, rfl, hm5, hk⟩⟩⟩
  · have HW := Lib.hid hw
    have HK5 : Hid (Keep (fun _ => False) w w5) := Keep.trans (by (repeat (first | exact Keep.refl _ _ | exact Keep.refl _ _ | refine Keep.drew ?_ | refine Keep.drewN ?_ _ | refine Keep.alloc ?_ _ | refine Keep.setNew ?_ (by omega) _)); done) hk
    have t0 : (wrE A.n f o == 0) = false := by simpa using hw
    obtain ⟨z, hz⟩ : ∃ z, wrE A.n f o = z := ⟨_, rfl⟩
    have HZ := Lib.hid hz
    rw [hz] at t0 ⊢
    clear hz hw hk m1
    go_wp2
    go_loop [8] (fun i => i = .int .i64 0) (fun _ => 0)
    case atStart => rfl
    case round =>
      obtain rfl := hrel
      go_wp2
      go_ret
      exact ⟨.int .i64 z, rfl, P, .inl ⟨HW.out, by rw [HZ.out], rfl⟩, HM.out.keep0 HK5.out, HK5.out.mono fun _ _ h => h.elim⟩
  · have HW := Lib.hid (And.intro hw hb)
    have HK5 : Hid (Keep (fun _ => False) w w5) := Keep.trans (by (repeat (first | exact Keep.refl _ _ | exact Keep.refl _ _ | refine Keep.drew ?_ | refine Keep.drewN ?_ _ | refine Keep.alloc ?_ _ | refine Keep.setNew ?_ (by omega) _)); done) hk
    clear hw hk m1 hb
    go_wp2
    go_loop [8] (fun i => i = .int .i64 0) (fun _ => 0)
    case atStart => rfl
    case round =>
      obtain rfl := hrel
      go_wp2
      go_ret
      exact ⟨.int .i64 12, rfl, P, .inr ⟨HW.out.1, f', o', rfl, rfl, .inl ⟨HW.out.2, rfl, rfl⟩⟩, HM.out.keep0 HK5.out, HK5.out.mono fun _ _ h => h.elim⟩
  · have HW := Lib.hid (And.intro hw hb)
    have HM5 := Lib.hid hm5
    have HK5 := Lib.hid (pc_on (w := w) (by (repeat (first | exact Keep.refl _ _ | exact Keep.refl _ _ | refine Keep.drew ?_ | refine Keep.drewN ?_ _ | refine Keep.alloc ?_ _ | refine Keep.setNew ?_ (by omega) _)); done) hk)
    have HO := Lib.hid (And.intro ho hfn)
    obtain ⟨p1, p2⟩ := pw_w o' ho
    obtain ⟨p3, p4⟩ := pw o' ho
    obtain ⟨p, hp⟩ : ∃ p, 2 ^ o' = p := ⟨_, rfl⟩
    have HP := Lib.hid hp
    rw [hp] at p1 p2 p3 p4
    have i0 : (0 : Int) ≤ o' := by omega
    have i8 : (o' : Int) ≤ 8 := by omega
    have hfp : f' + p ≤ A.n := by rw [← hp]; exact hfn
    have HFP := Lib.hid hfp
    have HN : Hid (A.n ≤ 1024) := HM.out.ra.n8.2
    clear hw hb hm5 hk ho hfn hp m1 hfp
    go_wp2
    go_loopw [8] (fun i wr => ∃ j : Nat, j ≤ p ∧ i = .int .i64 (j : Int) ∧ Mo wr A N ⟨addB P.F o' f', P.M, Fr.fillN P.L f' 0 j, P.W⟩ ∧ Keep (PC A N w) w wr) (fun i _ => p - (intOf i).toNat)
    case atStart => exact ⟨0, Nat.zero_le _, rfl, HM5.out, HK5.out⟩
    case round =>
      obtain ⟨j, hj, rfl, hm, hk⟩ := hrel
      have HMJ := Lib.hid hm
      have HKJ := Lib.hid hk
      have HM2 : Hid (wr.cell? ⟨A.m, 2, none⟩ = some (.pointer (some ⟨A.f, 0, none⟩))) := (cells4 hm.hm).2.2.1
      clear hm hk
      by_cases hlt : j < p
      · have i1 : (j : Int) < p := by omega
        obtain ⟨z, hz⟩ : ∃ z, f' + j = z := ⟨_, rfl⟩
        have e7 : IntKind.i64.wrap ((f' : Int) + (j : Int)) = (z : Int) := (IntWalk.i64_in _ (by have := HFP.out; have := HN.out; omega)).trans (by omega)
        have e8 : IntKind.i64.wrap ((j : Int) + 1) = (j : Int) + 1 := IntWalk.i64_in _ (by omega)
        have hzn : z < A.n := by have := HFP.out; omega
        have hzl : z < (Fr.fillN P.L f' 0 j).length := by rw [Fr.fillN_length, HK.out.ln]; exact hzn
        have hgz : gi (Fr.fillN P.L f' 0 j) z = gi P.L z := by
          rw [Fr.gi_fillN _ _ _ _ _ (by rw [HK.out.ln]; omega), if_neg (by omega)]
        have hheld := lk_held HK.out hzn (HW.out.2 z (by omega) (by rw [HP.out]; omega))
        obtain ⟨s, hs⟩ : ∃ s, gi P.L z = s := ⟨_, rfl⟩
        rw [hs] at hgz hheld
        obtain ⟨t1, t2⟩ := turnE_one hzl hgz hheld.1 hheld.2
        rw [← hz, fillN_step, hz] at t2
        have HT := Lib.hid (And.intro t1 t2)
        have HIS : Hid (Fr.isF (Fr.fillN P.L f' 0 j) (z : Int) = s) := (isF_in hzl).trans hgz
        have HLJ : Hid ((Fr.fillN P.L f' 0 (j + 1)).length = A.n) := by unfold Hid; rw [Fr.fillN_length]; exact HK.out.ln
        have HJ : Hid (j + 1 ≤ p) := hlt
        clear hz hzn hzl hgz hheld hs t1 t2
        have m2 := HM2.out
        go_wp2
        go_region_held3 (fun w' => w'.cell? ⟨A.m, 2, none⟩ = some (.pointer (some ⟨A.f, 0, none⟩)))
          (first | exact HC6.out | exact HC5.out | exact HM2.out)
          (first | (go_at_call 35; refine (Fr.is_any A.f A.q _ (z : Int) _ (HMJ.out.keep0 (by (repeat (first | exact Keep.refl _ _ | exact Keep.refl _ _ | refine Keep.drew ?_ | refine Keep.drewN ?_ _ | refine Keep.alloc ?_ _ | refine Keep.setNew ?_ (by omega) _)); done)).rf).mono ?_; rw [HIS.out]; rintro e w5 ⟨rfl, rfl⟩; have HC5 := HM2)
                 | (go_at_call 59; refine (Fr.turn_any A.f A.q _ (z : Int) 1 s 0 _ (HMJ.out.keep0 (by (repeat (first | exact Keep.refl _ _ | exact Keep.refl _ _ | refine Keep.drew ?_ | refine Keep.drewN ?_ _ | refine Keep.alloc ?_ _ | refine Keep.setNew ?_ (by omega) _)); done)).rf).mono ?_; rw [HT.out.1, HT.out.2]; rintro e w6 ⟨rfl, hr6, hk6⟩; have HR6 := Lib.hid hr6; have HK6 : Hid (Keep (fun z => z = A.f ∨ z = A.q) wr w6) := Keep.trans (by (repeat (first | exact Keep.refl _ _ | exact Keep.refl _ _ | refine Keep.drew ?_ | refine Keep.drewN ?_ _ | refine Keep.alloc ?_ _ | refine Keep.setNew ?_ (by omega) _)); done) hk6; have HC6 : Hid (w6.cell? ⟨A.m, 2, none⟩ = some (.pointer (some ⟨A.f, 0, none⟩))) := (HK6.out.cell (block_lt_cell HM2.out) (by rintro (e | e); exact typ_ne HMJ.out.hm HMJ.out.rf.hp (by decide) e; exact typ_ne HMJ.out.hm HMJ.out.rf.hq (by decide) e)).trans HM2.out; clear hr6 hk6))
        all_goals
          have HM6 := Lib.hid (HMJ.out.turn HR6.out HK6.out HLJ.out)
          go_wp2
          go_roundw
          case rel => exact ⟨j + 1, HJ.out, by go_num, HM6.out, pc_given HKJ.out (HK6.out.mono fun _ _ e => e.imp id .inl)⟩
          case measure => simp [intOf]; omega
      · obtain rfl : j = p := by omega
        clear hlt
        go_wp2
        go_ret
        exact ⟨.int .i64 0, _, rfl, .inr ⟨HW.out.1, f', o', rfl, rfl, .inr ⟨HW.out.2, rfl, by rw [HP.out]⟩⟩, HMJ.out, HKJ.out⟩

set_option maxHeartbeats 1000000 in
theorem mturn_any {w : World} {A : Ad} {N : Nat → Prop} {P : PS} (f n a b : Int) (h : Mo w A N P) :
    Calls Tryz.prog 49 #[.pointer (some ⟨A.m, 0, none⟩), .int .i64 f, .int .i64 n, .int .i64 a, .int .i64 b] w fun e w' => ∃ E P1, e = .returned E ∧ TuR P f n a b E P1 ∧ Mo w' A N P1 ∧ Keep (PC A N w) w w' := by
  have HM := Lib.hid h
  have m2 := (cells4 h.hm).2.2.1
  have hcase : (a = 0) ∨ (a ≠ 0 ∧ b = 0) ∨ (a ≠ 0 ∧ b ≠ 0) := by omega
  clear h
  rcases hcase with ha | ⟨ha, hb⟩ | ⟨ha, hb⟩
  · have t0 : (a == 0) = true := by simpa using ha
    have HA := Lib.hid ha
    clear ha
    go_enter Tryz.func49, Tryz.ntmps49
    go_wp2
    go_ret
    exact ⟨.int .i64 2, P, rfl, .inl ⟨.inl HA.out, rfl, rfl⟩, HM.out, Keep.refl _ _⟩
  · have t0 : (a == 0) = false := by simpa using ha
    have t1 : (b == 0) = true := by simpa using hb
    have HA := Lib.hid hb
    clear ha hb
    go_enter Tryz.func49, Tryz.ntmps49
    go_wp2
    go_ret
    exact ⟨.int .i64 2, P, rfl, .inl ⟨.inr HA.out, rfl, rfl⟩, HM.out, Keep.refl _ _⟩
  · have t0 : (a == 0) = false := by simpa using ha
    have t1 : (b == 0) = false := by simpa using hb
    have HA : Hid (¬ (a = 0 ∨ b = 0)) := by unfold Hid; omega
    have HLN : Hid ((Fr.turnL P.L f n a b).length = A.n) := by
      unfold Hid Fr.turnL
      split
      · rw [Fr.fillN_length]; exact HM.out.ln
      · exact HM.out.ln
    clear ha hb
    go_enter Tryz.func49, Tryz.ntmps49
    go_wp2_with (go_at_call 59; refine (Fr.turn_any A.f A.q P.L f n a b _ (HM.out.keep0 (by (repeat (first | exact Keep.refl _ _ | exact Keep.refl _ _ | refine Keep.drew ?_ | refine Keep.drewN ?_ _ | refine Keep.alloc ?_ _ | refine Keep.setNew ?_ (by omega) _)); done)).rf).mono ?_; rintro e w5 ⟨rfl, hr5, hk5⟩; have HR5 := Lib.hid hr5; have HK5 : Hid (Keep (fun z => z = A.f ∨ z = A.q) w w5) := Keep.trans (by (repeat (first | exact Keep.refl _ _ | exact Keep.refl _ _ | refine Keep.drew ?_ | refine Keep.drewN ?_ _ | refine Keep.alloc ?_ _ | refine Keep.setNew ?_ (by omega) _)); done) hk5; clear hr5 hk5)
    go_ret
    exact ⟨_, _, rfl, .inr ⟨HA.out, rfl, rfl⟩, HM.out.turn HR5.out HK5.out HLN.out, pc_given (Keep.refl _ _) (HK5.out.mono fun _ _ e => e.imp id .inl)⟩
theorem kset_any {w : World} {A : Ad} {N : Nat → Prop} {P : PS} (i y : Int) (h : Mo w A N P) :
    Calls Tryz.prog 78 #[.pointer (some ⟨A.k, 0, none⟩), .int .i64 i, .int .i64 y] w fun e w' => ∃ E P1, e = .returned E ∧ SeR A P i y E P1 ∧ Mo w' A N P1 ∧ Keep (PC A N w) w w' := by
  by_cases h1 : i < 0 ∨ (sec A.n : Int) ≤ i
  · refine (kset_range i y h.ko h1).mono ?_
    rintro e w1 ⟨rfl, rfl⟩
    exact ⟨_, P, rfl, .inl ⟨h1, rfl, rfl⟩, h, Keep.refl _ _⟩
  by_cases h2 : y < 0 ∨ 3 < y
  · refine (kset_arg i y h.ko (by omega) h2).mono ?_
    rintro e w1 ⟨rfl, rfl⟩
    exact ⟨_, P, rfl, .inr (.inl ⟨by omega, h2, rfl, rfl⟩), h, Keep.refl _ _⟩
  obtain ⟨i, rfl⟩ := Int.eq_ofNat_of_zero_le (show 0 ≤ i by omega)
  refine (kset_ok i y h.ko (by omega) (by omega)).mono ?_
  rintro e w1 ⟨rfl, ko, hk⟩
  obtain ⟨h3, h4⟩ := h.took ko (hk.mono fun _ _ e => .inr (.inr e))
  exact ⟨_, _, rfl, .inr (.inr ⟨by omega, by omega, rfl, rfl⟩), by simpa using h3, h4⟩
theorem mset_any {w : World} {A : Ad} {N : Nat → Prop} {P : PS} (i y : Int) (h : Mo w A N P) :
    Calls Tryz.prog 51 #[.pointer (some ⟨A.m, 0, none⟩), .int .i64 i, .int .i64 y] w fun e w' => ∃ E P1, e = .returned E ∧ SeR A P i y E P1 ∧ Mo w' A N P1 ∧ Keep (PC A N w) w w' := by
  have HM := Lib.hid h
  have m1 := (cells4 h.hm).2.1
  clear h
  go_enter Tryz.func51, Tryz.ntmps51
  go_wp2_with (go_at_call 78; refine (kset_any i y (HM.out.keep0 (by (repeat (first | exact Keep.refl _ _ | exact Keep.refl _ _ | refine Keep.drew ?_ | refine Keep.drewN ?_ _ | refine Keep.alloc ?_ _ | refine Keep.setNew ?_ (by omega) _)); done))).mono ?_; rintro e w5 ⟨E, P1, rfl, hs, hm5, hk5⟩; have HS := Lib.hid hs; have HM5 := Lib.hid hm5; have HK5 := Lib.hid (pc_on (w := w) (by (repeat (first | exact Keep.refl _ _ | exact Keep.refl _ _ | refine Keep.drew ?_ | refine Keep.drewN ?_ _ | refine Keep.alloc ?_ _ | refine Keep.setNew ?_ (by omega) _)); done) hk5); clear hs hm5 hk5)
  go_ret
  exact ⟨E, P1, rfl, HS.out, HM5.out, HK5.out⟩
/-- A word is laid. -/
theorem mstore_any {w : World} {A : Ad} {N : Nat → Prop} {P : PS} (i v : Nat) (h : Mo w A N P) (hi : i < 8 * A.n) (hv : v < 18446744073709551616) :
    Calls Tryz.prog 53 #[.pointer (some ⟨A.r, 0, none⟩), .int .i64 ((8 * i : Nat) : Int), .int .u64 (v : Int)] w fun e w' => ∃ E P1, e = .returned E ∧ (E = .int .i64 0 ∧ P1 = { P with W := setW P.W i v }) ∧ Mo w' A N P1 ∧ Keep (PC A N w) w w' := by
  refine (store_ok h.ra hi hv).mono ?_
  rintro e w' ⟨rfl, hr, hk⟩
  exact ⟨_, _, rfl, ⟨rfl, rfl⟩, h.zero hr hk, hk.mono fun z _ e => .inr (.inl e)⟩

end Go.Proofs.YtjffdimlbppgcaaGreat
