/- Buddy: do: Give of any block. -/
import Derived.Test.YtcbkfilhgeeebaaAP
set_option linter.unusedVariables false
set_option linter.unusedSimpArgs false
namespace Go.Proofs.Ytcbkfilhgeeebaa
open Go.RowKit Go.Own

/-- A block of which no frame is free. -/
def TkB (n : Nat) (F : Nat → Bool) (f o : Int) : Prop := ∃ f' o' : Nat, f = f' ∧ o = o' ∧ o' ≤ 8 ∧ f' % 2 ^ o' = 0 ∧ f' + 2 ^ o' ≤ n ∧ ∀ i, f' ≤ i → i < f' + 2 ^ o' → F i = false
theorem BF.keepg {w w' : World} {B p x g n : Nat} {F : Nat → Bool} (h : Two w B p x g n F) (k : Keep (fun z => z = g) w w') : BF w' B p n F (G3 B w') := by
  obtain ⟨c, hc⟩ := h.1.hp
  obtain ⟨C, hg, _⟩ := h.2.1.2
  exact (h.1.keep k (typ_ne hc hg (by decide)) (fun z hz e => by subst e; obtain ⟨_, c2, h2⟩ := hz; exact typ_ne hg h2 (by decide) rfl)).typ
theorem chg_two {w : World} {B p x g n : Nat} {F : Nat → Bool} (f o : Int) (hf : i64B f) (h : Two w B p x g n F) :
    Calls Try.prog 34 #[.pointer (some ⟨x, 0, none⟩), .int .i64 f, .int .i64 o, .bool true] w fun e w1 =>
      ∃ er : Int, e = .returned (.int .i64 er) ∧ KT B p g w w1 ∧ ((er ≠ 0 ∧ Keep (fun _ => False) w w1 ∧ ¬ TkB n F f o) ∨
        (er = 0 ∧ (∀ w2, Keep (fun _ => False) w1 w2 → Calls Try.prog 34 #[.pointer (some ⟨x, 0, none⟩), .int .i64 f, .int .i64 o, .bool false] w2 fun e w3 => e = .returned (.int .i64 0) ∧ Two w3 B p x g n F ∧ KT B p g w w3))) := by
  refine (rchange_any f o true h.2.1 h.1.n1024 hf).mono ?_
  rintro e w1 (⟨h0, rfl, hk⟩ | ⟨h0, f', o', rfl, rfl, ho, hfo, hfn, ⟨h1, rfl, hk⟩ | ⟨h1, rfl, hr, hk⟩⟩)
  · refine ⟨_, rfl, kt0 hk, .inl ⟨h0, hk, ?_⟩⟩
    rintro ⟨f', o', rfl, rfl, ho, hfo, hfn, _⟩
    exact h0 (wrE_zero ho hfo hfn)
  · refine ⟨_, rfl, kt0 hk, .inl ⟨by decide, hk, ?_⟩⟩
    rintro ⟨f2, o2, e1, e2, ho, hfo, hfn, hF⟩
    obtain rfl : f' = f2 := by omega
    obtain rfl : o' = o2 := by omega
    exact h1 ((allB_free hfn).mpr hF)
  · have k1 : KT B p g w w1 := hk.mono fun z _ e => .inr (.inr e)
    refine ⟨0, rfl, k1, .inr ⟨rfl, fun w2 k2 => (ref_ok f' o' false (hr.keep k2 id id) h.1.n1024 hf h0 (fun i hi => ⟨by omega, by simp [putB]; omega⟩)).mono ?_⟩⟩
    rintro e w3 ⟨rfl, hr3, hk3⟩
    have e1 : putB (putB F o' f' true) o' f' false = F := by
      rw [putB_true, putB_false]
      exact sub_add ((allB_free hfn).mp h1)
    rw [e1] at hr3
    obtain ⟨t1, t2⟩ := h.refd (BF.keepg h hk) hr k1 k2 hr3 hk3
    exact ⟨rfl, t1, t2⟩
theorem sw5 {K : Int} (h : K ≠ 0 ∧ K ≠ 1 ∧ K ≠ 2 ∧ K ≠ 3 ∧ K ≠ 4) : (K == 0) = false ∧ (K == 1) = false ∧ (K == 2) = false ∧ (K == 3) = false ∧ (K == 4) = false := by simp; exact h
theorem sw_bad {n : Nat} {f o : Int} (h : ¬ (0 ≤ o ∧ o ≤ 8 ∧ 0 ≤ f ∧ f < n)) :
    (decide (0 ≤ o) = false) ∨ (decide (0 ≤ o) = true ∧ decide (o ≤ 8) = false) ∨ (decide (0 ≤ o) = true ∧ decide (o ≤ 8) = true ∧ decide (0 ≤ f) = false) ∨ (decide (0 ≤ o) = true ∧ decide (o ≤ 8) = true ∧ decide (0 ≤ f) = true ∧ decide (f < (n : Int)) = false) := by
  simp only [decide_eq_true_eq, decide_eq_false_iff_not]
  omega
theorem sw_good {n : Nat} {f o : Int} (h : 0 ≤ o ∧ o ≤ 8 ∧ 0 ≤ f ∧ f < n) : decide (0 ≤ o) = true ∧ decide (o ≤ 8) = true ∧ decide (0 ≤ f) = true ∧ decide (f < (n : Int)) = true := by
  simp only [decide_eq_true_eq]; exact h
theorem bad_tk {n : Nat} {F : Nat → Bool} {f o : Int} (h : ¬ (0 ≤ o ∧ o ≤ 8 ∧ 0 ≤ f ∧ f < n)) : ¬ TkB n F f o := by
  rintro ⟨f', o', rfl, rfl, h1, h2, h3, _⟩
  have := p2 o'
  omega

end Go.Proofs.Ytcbkfilhgeeebaa
