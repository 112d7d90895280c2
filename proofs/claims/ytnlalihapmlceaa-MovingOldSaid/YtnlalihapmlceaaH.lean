/- Moves: the reference's calls that change it. -/
import Derived.Test.YtnlalihapmlceaaF
set_option linter.unusedVariables false
set_option linter.unusedSimpArgs false
namespace Go.Proofs.Ytnlalihapmlceaa
open Go.RowKit Go.Own

def rcopyE (S : List Int) (f : Int) : Int := if rmeet S f = 0 then 6 else if rmeet S f = 2 then 5 else 0
def rcopyS (S : List Int) (f : Int) : List Int := if rcopyE S f = 0 then S.set f.toNat 2 else S

theorem rmeet_frame {S : List Int} {f : Int} (h : rmeet S f ≠ 0) : 0 ≤ f ∧ f ≤ 1023 := by
  unfold rmeet at h
  by_cases c : frameR f = true
  · exact frameR_iff.1 c
  · rw [if_neg c] at h; exact absurd rfl h

theorem RepX.set {w : World} {p t s a : Nat} {most : Int} {T S A : List Int} (h : RepX w p t s a most T S A) (i : Nat) (v : Int) : RepX (w.setCell ⟨s, i, none⟩ (.int .i64 v)) p t s a most T (S.set i v) A := by
  obtain ⟨n1, n2, n3, n4, n5, n6⟩ := h.ne
  refine ⟨?_, ?_, heap_setCell_rowI h.hs, ?_, h.lt, by simpa using h.ls, h.la, h.ne, h.bt⟩
  · rw [heap_setCell_ne (by simpa using n2)]; exact h.hp
  · rw [heap_setCell_ne (by simpa using n4)]; exact h.ht
  · rw [heap_setCell_ne (by simpa using Ne.symm n6)]; exact h.ha
theorem RepX.setA {w : World} {p t s a : Nat} {most : Int} {T S A : List Int} (h : RepX w p t s a most T S A) (i : Nat) (v : Int) : RepX (w.setCell ⟨a, i, none⟩ (.int .i64 v)) p t s a most T S (A.set i v) := by
  obtain ⟨n1, n2, n3, n4, n5, n6⟩ := h.ne
  refine ⟨?_, ?_, ?_, heap_setCell_rowI h.ha, h.lt, h.ls, by simpa using h.la, h.ne, h.bt⟩
  · rw [heap_setCell_ne (by simpa using n3)]; exact h.hp
  · rw [heap_setCell_ne (by simpa using n5)]; exact h.ht
  · rw [heap_setCell_ne (by simpa using n6)]; exact h.hs
theorem RepX.setT {w : World} {p t s a : Nat} {most : Int} {T S A : List Int} (h : RepX w p t s a most T S A) (i : Nat) (v : Int) (hv : 0 ≤ v ∧ v ≤ 1024) : RepX (w.setCell ⟨t, i, none⟩ (.int .i64 v)) p t s a most (T.set i v) S A := by
  obtain ⟨n1, n2, n3, n4, n5, n6⟩ := h.ne
  refine ⟨?_, heap_setCell_rowI h.ht, ?_, ?_, by simpa using h.lt, h.ls, h.la, h.ne, fun j hj => ?_⟩
  · rw [heap_setCell_ne (by simpa using n1)]; exact h.hp
  · rw [heap_setCell_ne (by simpa using Ne.symm n4)]; exact h.hs
  · rw [heap_setCell_ne (by simpa using Ne.symm n5)]; exact h.ha
  · by_cases e : i = j
    · subst e; rw [gi_set_eq (by rw [h.lt]; omega)]; exact hv
    · rw [gi_set_ne e]; exact h.bt j hj

/-- The four blocks. -/
def XB (p t s a : Nat) : Nat → Prop := fun x => x = p ∨ x = t ∨ x = s ∨ x = a

set_option maxRecDepth 100000 in
set_option maxHeartbeats 1000000 in
theorem rcopy_any {w : World} {p t s a : Nat} {most : Int} {T S A : List Int} (f : Int) (h : RepX w p t s a most T S A) :
    Calls Try.prog 30 #[.pointer (some ⟨p, 0, none⟩), .int .i64 f] w fun e w' => e = .returned (.int .i64 (rcopyE S f)) ∧ RepX w' p t s a most T (rcopyS S f) A ∧ Keep (XB p t s a) w w' := by
  have c2 := h.c2
  by_cases h0 : rmeet S f = 0
  · have e1 : Hid (rcopyE S f = 6) := by unfold Hid rcopyE; rw [if_pos h0]
    have h0' : (rmeet S f == 0) = true := by simp [h0]
    clear h0
    go_enter Try.func30, Try.ntmps30
    go_wp2_with (go_at_call 22; refine (rmeet_any _ h).mono ?_; rintro e w1 ⟨rfl, rfl⟩)
    go_ret
    exact ⟨ret_int e1.out.symm, by unfold rcopyS; rw [if_neg (by rw [e1.out]; decide)]; exact h, Keep.refl _ _⟩
  · have hfr := rmeet_frame h0
    have h0' : (rmeet S f == 0) = false := by simpa using h0
    by_cases h2 : rmeet S f = 2
    · have e1 : Hid (rcopyE S f = 5) := by unfold Hid rcopyE; rw [if_neg h0, if_pos h2]
      have h2' : (rmeet S f == 2) = true := by simp [h2]
      clear h0 h2
      go_enter Try.func30, Try.ntmps30
      go_wp2_with (go_at_call 22; refine (rmeet_any _ h).mono ?_; rintro e w1 ⟨rfl, rfl⟩)
      go_ret
      exact ⟨ret_int e1.out.symm, by unfold rcopyS; rw [if_neg (by rw [e1.out]; decide)]; exact h, Keep.refl _ _⟩
    · have e1 : Hid (rcopyE S f = 0) := by unfold Hid rcopyE; rw [if_neg h0, if_neg h2]
      have h2' : (rmeet S f == 2) = false := by simpa using h2
      obtain ⟨f, rfl⟩ := Int.eq_ofNat_of_zero_le hfr.1
      have hc : w.cell? ⟨s, f, none⟩ = some (.int .i64 (gi S f)) := cell_rowI h.hs (by rw [h.ls]; omega)
      have hz : w.frozen? ⟨s, f, none⟩ = false := frozen_rowI h.hs
      have hf1 : f < 1024 := by omega
      clear h0 h2
      go_enter Try.func30, Try.ntmps30
      go_wp2_with (go_at_call 22; refine (rmeet_any _ h).mono ?_; rintro e w1 ⟨rfl, rfl⟩)
      go_ret
      exact ⟨ret_int e1.out.symm, by unfold rcopyS; rw [if_pos e1.out]; exact h.set f 2, (Keep.refl _ _).setCell (fun _ => .inr (.inr (.inl rfl))) _⟩

/-- End: what is answered; the rows behind it. -/
def rendR (T S : List Int) (f : Int) (g : Bool) : Int × Int := if rmeet S f = 0 then (0, 6) else if rmeet S f = 1 ∧ g = false then (0, 5) else (gi T f.toNat - 1, 0)
def rendT (T S : List Int) (f : Int) (g : Bool) : List Int := if (rendR T S f g).2 = 0 then T.set f.toNat 0 else T
def rendS (T S : List Int) (f : Int) (g : Bool) : List Int := if (rendR T S f g).2 = 0 then S.set f.toNat 0 else S

set_option maxRecDepth 100000 in
set_option maxHeartbeats 1000000 in
theorem rend_any {w : World} {p t s a : Nat} {most : Int} {T S A : List Int} (f : Int) (g : Bool) (h : RepX w p t s a most T S A) :
    Calls Try.prog 31 #[.pointer (some ⟨p, 0, none⟩), .int .i64 f, .bool g] w fun e w' => e = .returned (.tuple #[.int .i64 (rendR T S f g).1, .int .i64 (rendR T S f g).2]) ∧ RepX w' p t s a most (rendT T S f g) (rendS T S f g) A ∧ Keep (XB p t s a) w w' := by
  have c1 := h.c1
  have c2 := h.c2
  by_cases h0 : rmeet S f = 0
  · have e1 : Hid (rendR T S f g = (0, 6)) := by unfold Hid rendR; rw [if_pos h0]
    have h0' : (rmeet S f == 0) = true := by simp [h0]
    clear h0
    go_enter Try.func31, Try.ntmps31
    go_wp2_with (go_at_call 22; refine (rmeet_any _ h).mono ?_; rintro e w1 ⟨rfl, rfl⟩)
    go_ret2
    exact ⟨by rw [e1.out]; rfl, by unfold rendT rendS; rw [e1.out]; exact h, Keep.refl _ _⟩
  · have hfr := rmeet_frame h0
    have h0' : (rmeet S f == 0) = false := by simpa using h0
    by_cases h2 : rmeet S f = 1 ∧ g = false
    · have e1 : Hid (rendR T S f g = (0, 5)) := by unfold Hid rendR; rw [if_neg h0, if_pos h2]
      obtain ⟨h2, rfl⟩ := h2
      have h2' : (rmeet S f == 1) = true := by simp [h2]
      clear h0 h2
      go_enter Try.func31, Try.ntmps31
      go_wp2_with (go_at_call 22; refine (rmeet_any _ h).mono ?_; rintro e w1 ⟨rfl, rfl⟩)
      go_ret2
      exact ⟨by rw [e1.out]; rfl, by unfold rendT rendS; rw [e1.out]; exact h, Keep.refl _ _⟩
    · have e1 : Hid (rendR T S f g = (gi T f.toNat - 1, 0)) := by unfold Hid rendR; rw [if_neg h0, if_neg h2]
      obtain ⟨f, rfl⟩ := Int.eq_ofNat_of_zero_le hfr.1
      have hf1 : f < 1024 := by omega
      obtain ⟨n1, n2, n3, n4, n5, n6⟩ := h.ne
      have hc : w.cell? ⟨s, f, none⟩ = some (.int .i64 (gi S f)) := cell_rowI h.hs (by rw [h.ls]; omega)
      have hz : w.frozen? ⟨s, f, none⟩ = false := frozen_rowI h.hs
      have hcT : w.cell? ⟨t, f, none⟩ = some (.int .i64 (gi T f)) := cell_rowI h.ht (by rw [h.lt]; omega)
      have hzT : w.frozen? ⟨t, f, none⟩ = false := frozen_rowI h.ht
      have hbt := h.bt f hf1
      have hF : Hid (RepX ((w.setCell ⟨t, f, none⟩ (.int .i64 0)).setCell ⟨s, f, none⟩ (.int .i64 0)) p t s a most (T.set f 0) (S.set f 0) A) := (h.setT f 0 (by omega)).set f 0
      have hk : Hid (Keep (XB p t s a) w ((w.setCell ⟨t, f, none⟩ (.int .i64 0)).setCell ⟨s, f, none⟩ (.int .i64 0))) := ((Keep.refl _ _).setCell (fun _ => .inr (.inl rfl)) _).setCell (fun _ => .inr (.inr (.inl rfl))) _
      by_cases h1 : rmeet S f = 1
      · have h1' : (rmeet S f == 1) = true := by simp [h1]
        have hg : g = true := by cases g <;> simp [h1] at h2 ⊢
        subst hg
        clear h0 h2 h1
        go_enter Try.func31, Try.ntmps31
        go_wp2_with (go_at_call 22; refine (rmeet_any _ h).mono ?_; rintro e w1 ⟨rfl, rfl⟩)
        go_ret2
        exact ⟨by rw [e1.out]; rfl, by unfold rendT rendS; rw [e1.out]; exact hF.out, hk.out⟩
      · have h1' : (rmeet S f == 1) = false := by simpa using h1
        clear h0 h2 h1
        go_enter Try.func31, Try.ntmps31
        go_wp2_with (go_at_call 22; refine (rmeet_any _ h).mono ?_; rintro e w1 ⟨rfl, rfl⟩)
        go_ret2
        exact ⟨by rw [e1.out]; rfl, by unfold rendT rendS; rw [e1.out]; exact hF.out, hk.out⟩

end Go.Proofs.Ytnlalihapmlceaa
