/- Buddy: both objects, apart; Take of both. -/
import Derived.Test.YtcbkfilhgeeebaaAG
set_option linter.unusedVariables false
set_option linter.unusedSimpArgs false
namespace Go.Proofs.Ytcbkfilhgeeebaa
open Go.RowKit Go.Own

/-- The blocks where rows of numbers lie. -/
def G3 (B : Nat) (w : World) : Nat → Prop := fun z => (B ≤ z ∧ z < w.heap.size) ∧ ∃ c, w.heap[z]? = some (.cells c 3 (0, 0))
theorem BF.typ {w : World} {B p n : Nat} {F : Nat → Bool} {G : Nat → Prop} (h : BF w B p n F G) : BF w B p n F (G3 B w) := by
  obtain ⟨S, ⟨V, h1, h2⟩, h3⟩ := h
  exact ⟨S, ⟨V, h1, fun j hj x hx => ⟨(h1.hv j hj).lt x hx, own_typ (h1.hv j hj) hx⟩⟩, h3⟩
theorem BF.hp {w : World} {B p n : Nat} {F : Nat → Bool} {G : Nat → Prop} (h : BF w B p n F G) : ∃ c, w.heap[p]? = some (.cells c 63 (0, 0)) := by
  obtain ⟨S, ⟨V, h1, h2⟩, h3⟩ := h
  exact ⟨_, h1.hp⟩
theorem BF.n1024 {w : World} {B p n : Nat} {F : Nat → Bool} {G : Nat → Prop} (h : BF w B p n F G) : n ≤ 1024 := by
  obtain ⟨S, ⟨V, h1, h2⟩, h3⟩ := h
  exact h1.hn
theorem BF.fin {w : World} {B p n : Nat} {F : Nat → Bool} {G : Nat → Prop} (h : BF w B p n F G) : ∀ i, F i = true → i < n := by
  obtain ⟨S, ⟨V, h1, h2⟩, h3, h4⟩ := h
  exact h4
def Two (w : World) (B p x g n : Nat) (F : Nat → Bool) : Prop := BF w B p n F (G3 B w) ∧ RX w x g n F ∧ B ≤ p ∧ B ≤ x ∧ B ≤ g ∧ B ≤ w.heap.size
/-- What both may change: the program's object, its rows, the reference's row. -/
def KT (B p g : Nat) (w w' : World) : Prop := Keep (fun z => z = p ∨ G3 B w z ∨ z = g) w w'
theorem Two.keep0 {w w' : World} {B p x g n : Nat} {F : Nat → Bool} (h : Two w B p x g n F) (k : Keep (fun _ => False) w w') : Two w' B p x g n F :=
  ⟨(BF.keep0 h.1 k).typ, h.2.1.keep k id id, h.2.2.1, h.2.2.2.1, h.2.2.2.2.1, Nat.le_trans h.2.2.2.2.2 k.size⟩
theorem Two.took {w w' : World} {B p x g n : Nat} {F F' : Nat → Bool} (h : Two w B p x g n F) (t : TookC w w' B p n F' (G3 B w)) : BF w' B p n F' (G3 B w') ∧ RX w' x g n F ∧ KT B p g w w' := by
  obtain ⟨c, hc⟩ := h.1.hp
  have hx := h.2.1.1
  obtain ⟨C, hg, _⟩ := h.2.1.2
  refine ⟨t.1.typ, h.2.1.keep t.2 ?_ ?_, t.2.mono fun z _ hz => hz.imp id .inl⟩
  · rintro (e | ⟨_, c2, h2⟩)
    · exact typ_ne hx hc (by decide) e
    · exact typ_ne hx h2 (by decide) rfl
  · rintro (e | ⟨_, c2, h2⟩)
    · exact typ_ne hg hc (by decide) e
    · exact typ_ne hg h2 (by decide) rfl
theorem Two.refd {w w1 w2 w3 : World} {B p x g n : Nat} {F F1 F' : Nat → Bool} (h : Two w B p x g n F) (b : BF w1 B p n F' (G3 B w1)) (r : RX w1 x g n F1) (k : KT B p g w w1) (k2 : Keep (fun _ => False) w1 w2) (r3 : RX w3 x g n F') (k3 : Keep (fun z => z = g) w2 w3) : Two w3 B p x g n F' ∧ KT B p g w w3 := by
  have b2 := (BF.keep0 b k2).typ
  obtain ⟨c, hc⟩ := b2.hp
  obtain ⟨C, hg, _⟩ := (r.keep k2 id id).2
  have hpg : p ≠ g := typ_ne hc hg (by decide)
  refine ⟨⟨?_, r3, h.2.2.1, h.2.2.2.1, h.2.2.2.2.1, Nat.le_trans h.2.2.2.2.2 (Nat.le_trans k.size (Nat.le_trans k2.size k3.size))⟩, (Keep.trans k (k2.mono fun _ _ h => h.elim)).trans (k3.mono fun z _ e => .inr (.inr e))⟩
  obtain ⟨S, hb, hr⟩ := b2
  exact BF.typ ⟨S, hb.keep k3 hpg (fun z hz e => by subst e; obtain ⟨_, c2, h2⟩ := hz; exact typ_ne hg h2 (by decide) rfl), hr⟩

/-- The contract of the second call, behind the first. -/
def NxT (B p x g n : Nat) (w w1 : World) (f : Nat) (args : Array Value) (E : Value) (F' : Nat → Bool) : Prop :=
  ∀ w2, Keep (fun _ => False) w1 w2 → Calls Try.prog f args w2 fun e w3 => e = .returned E ∧ Two w3 B p x g n F' ∧ KT B p g w w3
theorem kt0 {B p g : Nat} {w w' : World} (k : Keep (fun _ => False) w w') : KT B p g w w' := k.mono fun _ _ h => h.elim
theorem pair_take {w : World} {B p x g n : Nat} {F : Nat → Bool} (o : Int) (h : Two w B p x g n F) :
    Calls Try.prog 13 #[.pointer (some ⟨p, 0, none⟩), .int .i64 o] w fun e w1 => ∃ (a er : Int) (F' : Nat → Bool), e = .returned (.tuple #[.int .i64 a, .int .i64 er]) ∧
      NxT B p x g n w w1 33 #[.pointer (some ⟨x, 0, none⟩), .int .i64 o] (.tuple #[.int .i64 a, .int .i64 er]) F' ∧
      ((er ≠ 0 ∧ F' = F) ∨ (er = 0 ∧ ∃ (a' o' : Nat), a = a' ∧ o = o' ∧ o' ≤ 8 ∧ a' % 2 ^ o' = 0 ∧ blk F o' a' ∧ F' = subB F o' a')) ∧ KT B p g w w1 := by
  by_cases hb : o < 0 ∨ 8 < o
  · refine (take_arg p o hb w).mono ?_
    rintro e w1 ⟨rfl, hk⟩
    refine ⟨0, 2, F, rfl, fun w2 k2 => (rtake_arg x o hb w2).mono ?_, .inl ⟨by decide, rfl⟩, kt0 hk⟩
    rintro e w3 ⟨rfl, rfl⟩
    exact ⟨rfl, h.keep0 (hk.trans k2), kt0 (hk.trans k2)⟩
  · obtain ⟨q, rfl⟩ := Int.eq_ofNat_of_zero_le (show 0 ≤ o by omega)
    have hq : q ≤ 8 := by omega
    refine (take_any h.2.2.2.2.2 h.1 (fun z hz => hz.1.2) hq).mono ?_
    rintro e w1 (⟨k, a, hqk, hm, hl, hf, rfl, ht⟩ | ⟨hno, rfl, hk⟩)
    · obtain ⟨hbf, hrx, hkt⟩ := h.took ht
      refine ⟨a, 0, subB F q a, rfl, fun w2 k2 => (rtake_any (hrx.keep k2 id id) h.1.n1024 h.1.fin hq).mono ?_, .inr ⟨rfl, a, q, rfl, rfl, hq, ?_, fun i e1 e2 => ?_, rfl⟩, hkt⟩
      · rintro e w3 (⟨k', a', hqk', hm', hl', hf', rfl, hr3, hk3⟩ | ⟨hno, _⟩)
        · have ek : k = k' := by
            rcases Nat.lt_trichotomy k k' with e | e | e
            · exact absurd hm (hl' k a hqk e)
            · exact e
            · exact absurd hm' (hl k' a' hqk' e)
          subst ek
          have ea : a = a' := by
            rcases Nat.lt_trichotomy a a' with e | e | e
            · exact absurd hm (hf' a e)
            · exact e
            · exact absurd hm' (hf a' e)
          subst ea
          obtain ⟨t1, t2⟩ := h.refd hbf hrx hkt k2 hr3 hk3
          exact ⟨rfl, t1, t2⟩
        · exact absurd hm (hno k a hqk)
      · exact Nat.mod_eq_zero_of_dvd (Nat.dvd_trans (Nat.pow_dvd_pow 2 hqk) (Nat.dvd_of_mod_eq_zero hm.2.1))
      · exact hm.2.2.1 i e1 (by have := Nat.pow_le_pow_right (n := 2) (by decide) hqk; omega)
    · refine ⟨0, 8, F, rfl, fun w2 k2 => (rtake_any ((h.keep0 (hk.trans k2)).2.1) h.1.n1024 h.1.fin hq).mono ?_, .inl ⟨by decide, rfl⟩, kt0 hk⟩
      rintro e w3 (⟨k', a', hqk', hm', _⟩ | ⟨_, rfl, hk3⟩)
      · exact absurd hm' (hno k' a' hqk')
      · exact ⟨rfl, h.keep0 ((hk.trans k2).trans hk3), kt0 ((hk.trans k2).trans hk3)⟩

end Go.Proofs.Ytcbkfilhgeeebaa
