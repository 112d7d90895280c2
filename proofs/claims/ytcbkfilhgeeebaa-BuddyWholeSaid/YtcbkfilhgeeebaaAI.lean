/- Buddy: TakeAt and Give of both. -/
import Derived.Test.YtcbkfilhgeeebaaAH
set_option linter.unusedVariables false
set_option linter.unusedSimpArgs false
namespace Go.Proofs.Ytcbkfilhgeeebaa
open Go.RowKit Go.Own

def i64B (f : Int) : Prop := -9223372036854775808 ≤ f ∧ f ≤ 9223372036854775807
theorem ref_bad {w : World} {x g n : Nat} {F : Nat → Bool} (f o : Int) (b : Bool) (h : RX w x g n F) (hn : n ≤ 1024) (hf : i64B f) (hw : wrE n f o ≠ 0) :
    Calls Try.prog 34 #[.pointer (some ⟨x, 0, none⟩), .int .i64 f, .int .i64 o, .bool b] w fun e w' => e = .returned (.int .i64 (wrE n f o)) ∧ Keep (fun _ => False) w w' := by
  refine (rchange_any f o b h hn hf).mono ?_
  rintro e w' (⟨_, rfl, hk⟩ | ⟨h0, _⟩)
  · exact ⟨rfl, hk⟩
  · exact absurd h0 hw
theorem ref_busy {w : World} {x g n : Nat} {F : Nat → Bool} (f o : Nat) (b : Bool) (h : RX w x g n F) (hn : n ≤ 1024) (hf : i64B f) (hw : wrE n f o = 0) (ha : ¬ allB F n f (2 ^ o) (!b)) :
    Calls Try.prog 34 #[.pointer (some ⟨x, 0, none⟩), .int .i64 (f : Int), .int .i64 (o : Int), .bool b] w fun e w' => e = .returned (.int .i64 12) ∧ Keep (fun _ => False) w w' := by
  refine (rchange_any f o b h hn hf).mono ?_
  rintro e w' (⟨h0, _⟩ | ⟨_, f', o', e1, e2, _, _, _, ⟨_, rfl, hk⟩ | ⟨h1, _⟩⟩)
  · exact absurd hw h0
  · exact ⟨rfl, hk⟩
  · obtain rfl : f = f' := by omega
    obtain rfl : o = o' := by omega
    exact absurd h1 ha
theorem ref_ok {w : World} {x g n : Nat} {F : Nat → Bool} (f o : Nat) (b : Bool) (h : RX w x g n F) (hn : n ≤ 1024) (hf : i64B f) (hw : wrE n f o = 0) (ha : allB F n f (2 ^ o) (!b)) :
    Calls Try.prog 34 #[.pointer (some ⟨x, 0, none⟩), .int .i64 (f : Int), .int .i64 (o : Int), .bool b] w fun e w' => e = .returned (.int .i64 0) ∧ RX w' x g n (putB F o f b) ∧ Keep (fun z => z = g) w w' := by
  refine (rchange_any f o b h hn hf).mono ?_
  rintro e w' (⟨h0, _⟩ | ⟨_, f', o', e1, e2, _, _, _, ⟨h1, _⟩ | ⟨_, rfl, hr, hk⟩⟩)
  · exact absurd hw h0
  · obtain rfl : f = f' := by omega
    obtain rfl : o = o' := by omega
    exact absurd ha h1
  · obtain rfl : f = f' := by omega
    obtain rfl : o = o' := by omega
    exact ⟨rfl, hr, hk⟩
theorem pair_at {w : World} {B p x g n : Nat} {F : Nat → Bool} (f o : Int) (hf : i64B f) (h : Two w B p x g n F) :
    Calls Try.prog 19 #[.pointer (some ⟨p, 0, none⟩), .int .i64 f, .int .i64 o] w fun e w1 => ∃ (er : Int) (F' : Nat → Bool), e = .returned (.int .i64 er) ∧
      NxT B p x g n w w1 34 #[.pointer (some ⟨x, 0, none⟩), .int .i64 f, .int .i64 o, .bool false] (.int .i64 er) F' ∧
      ((er ≠ 0 ∧ F' = F) ∨ (er = 0 ∧ ∃ (f' o' : Nat), f = f' ∧ o = o' ∧ o' ≤ 8 ∧ f' % 2 ^ o' = 0 ∧ f' + 2 ^ o' ≤ n ∧ blk F o' f' ∧ F' = subB F o' f')) ∧ KT B p g w w1 := by
  by_cases hw : wrE n f o = 0
  · obtain ⟨f', o', rfl, rfl, ho, hfo, hfn⟩ := wrE_ok hw
    by_cases hb : blk F o' f'
    · refine (takeAt_ok h.2.2.2.2.2 h.1 (fun z hz => hz.1.2) hw ho hfo hfn hb).mono ?_
      rintro e w1 ⟨rfl, ht⟩
      obtain ⟨hbf, hrx, hkt⟩ := h.took ht
      refine ⟨0, subB F o' f', rfl, fun w2 k2 => (ref_ok f' o' false (hrx.keep k2 id id) h.1.n1024 hf hw ((allB_blk h.1.fin).mpr hb)).mono ?_, .inr ⟨rfl, f', o', rfl, rfl, ho, hfo, hfn, hb, rfl⟩, hkt⟩
      rintro e w3 ⟨rfl, hr3, hk3⟩
      rw [putB_false] at hr3
      obtain ⟨t1, t2⟩ := h.refd hbf hrx hkt k2 hr3 hk3
      exact ⟨rfl, t1, t2⟩
    · refine (takeAt_busy h.1 hw ho hfo hfn hb).mono ?_
      rintro e w1 ⟨rfl, hk⟩
      refine ⟨12, F, rfl, fun w2 k2 => (ref_busy f' o' false (h.keep0 (hk.trans k2)).2.1 h.1.n1024 hf hw (fun ha => hb ((allB_blk h.1.fin).mp ha))).mono ?_, .inl ⟨by decide, rfl⟩, kt0 hk⟩
      rintro e w3 ⟨rfl, hk3⟩
      exact ⟨rfl, h.keep0 ((hk.trans k2).trans hk3), kt0 ((hk.trans k2).trans hk3)⟩
  · refine (takeAt_bad f o h.1 hw).mono ?_
    rintro e w1 ⟨rfl, hk⟩
    refine ⟨wrE n f o, F, rfl, fun w2 k2 => (ref_bad f o false (h.keep0 (hk.trans k2)).2.1 h.1.n1024 hf hw).mono ?_, .inl ⟨hw, rfl⟩, kt0 hk⟩
    rintro e w3 ⟨rfl, hk3⟩
    exact ⟨rfl, h.keep0 ((hk.trans k2).trans hk3), kt0 ((hk.trans k2).trans hk3)⟩
theorem allB_free {F : Nat → Bool} {n f P : Nat} (h : f + P ≤ n) : allB F n f P false ↔ ∀ i, f ≤ i → i < f + P → F i = false := by
  constructor
  · intro ha i h1 h2
    have := (ha (i - f) (by omega)).2
    rwa [show f + (i - f) = i by omega] at this
  · intro ha i hi
    exact ⟨by omega, ha (f + i) (by omega) (by omega)⟩
theorem pair_give {w : World} {B p x g n : Nat} {F : Nat → Bool} (f o : Int) (hf : i64B f) (h : Two w B p x g n F) :
    Calls Try.prog 22 #[.pointer (some ⟨p, 0, none⟩), .int .i64 f, .int .i64 o] w fun e w1 => ∃ (er : Int) (F' : Nat → Bool), e = .returned (.int .i64 er) ∧
      NxT B p x g n w w1 34 #[.pointer (some ⟨x, 0, none⟩), .int .i64 f, .int .i64 o, .bool true] (.int .i64 er) F' ∧
      ((er ≠ 0 ∧ F' = F) ∨ (er = 0 ∧ ∃ (f' o' : Nat), f = f' ∧ o = o' ∧ o' ≤ 8 ∧ f' % 2 ^ o' = 0 ∧ f' + 2 ^ o' ≤ n ∧ (∀ i, f' ≤ i → i < f' + 2 ^ o' → F i = false) ∧ F' = addB F o' f')) ∧ KT B p g w w1 := by
  by_cases hw : wrE n f o = 0
  · obtain ⟨f', o', rfl, rfl, ho, hfo, hfn⟩ := wrE_ok hw
    by_cases hb : ∀ i, f' ≤ i → i < f' + 2 ^ o' → F i = false
    · refine (give_ok h.2.2.2.2.2 h.1 (fun z hz => hz.1.2) hw ho hfo hfn hb).mono ?_
      rintro e w1 ⟨rfl, ht⟩
      obtain ⟨hbf, hrx, hkt⟩ := h.took ht
      refine ⟨0, addB F o' f', rfl, fun w2 k2 => (ref_ok f' o' true (hrx.keep k2 id id) h.1.n1024 hf hw ((allB_free hfn).mpr hb)).mono ?_, .inr ⟨rfl, f', o', rfl, rfl, ho, hfo, hfn, hb, rfl⟩, hkt⟩
      rintro e w3 ⟨rfl, hr3, hk3⟩
      rw [putB_true] at hr3
      obtain ⟨t1, t2⟩ := h.refd hbf hrx hkt k2 hr3 hk3
      exact ⟨rfl, t1, t2⟩
    · refine (give_busy h.1 hw ho hfn hb).mono ?_
      rintro e w1 ⟨rfl, hk⟩
      refine ⟨12, F, rfl, fun w2 k2 => (ref_busy f' o' true (h.keep0 (hk.trans k2)).2.1 h.1.n1024 hf hw (fun ha => hb ((allB_free hfn).mp ha))).mono ?_, .inl ⟨by decide, rfl⟩, kt0 hk⟩
      rintro e w3 ⟨rfl, hk3⟩
      exact ⟨rfl, h.keep0 ((hk.trans k2).trans hk3), kt0 ((hk.trans k2).trans hk3)⟩
  · refine (give_bad f o h.1 hw).mono ?_
    rintro e w1 ⟨rfl, hk⟩
    refine ⟨wrE n f o, F, rfl, fun w2 k2 => (ref_bad f o true (h.keep0 (hk.trans k2)).2.1 h.1.n1024 hf hw).mono ?_, .inl ⟨hw, rfl⟩, kt0 hk⟩
    rintro e w3 ⟨rfl, hk3⟩
    exact ⟨rfl, h.keep0 ((hk.trans k2).trans hk3), kt0 ((hk.trans k2).trans hk3)⟩

end Go.Proofs.Ytcbkfilhgeeebaa
