/- Gather: both objects through a call each. -/
import Derived.Test.YtibcfglfcoljgaaAF
set_option linter.unusedVariables false
set_option linter.unusedSimpArgs false
namespace Go.Proofs.Ytibcfglfcoljgaa
open Go.RowKit Go.Own

/-- Both objects. -/
def TwoX (w : World) (B p q : Nat) (m : Int) (L : List Fl) (P : List Sp) (Q Q2 : List Bk) (r r2 : Int) : Prop :=
  ∃ v u pv bv, RepH w B p m v u L Q r ∧ RepX w B q m pv bv P Q2 r2 ∧ (∀ x, u.ownBlock = some x → bv.ownBlock ≠ some x)
theorem TwoX.keep0 {w w' : World} {B p q : Nat} {m : Int} {L : List Fl} {P : List Sp} {Q Q2 : List Bk} {r r2 : Int} (h : TwoX w B p q m L P Q Q2 r r2) (k : Keep (fun _ => False) w w') : TwoX w' B p q m L P Q Q2 r r2 := by
  obtain ⟨v, u, pv, bv, h1, h2, h3⟩ := h
  exact ⟨v, u, pv, bv, h1.keep0 k, h2.keep0 k, h3⟩
theorem RepX.byP {w w' : World} {B p q : Nat} {m : Int} {v u : Value} {P : List Sp} {Q : List Bk} {r : Int} {c : Array Value} (h : RepX w B q m v u P Q r) (hp : w.heap[p]? = some (.cells c 59 (0, 0))) (k : Keep (fun z => z = p) w w') : RepX w' B q m v u P Q r := by
  refine h.keep k (fun e => typ_ne h.hp hp (by decide) e) (fun x hx e => ?_) (fun x hx e => ?_)
  · obtain ⟨cc, hc⟩ := own_typ h.hv hx
    exact typ_ne hc hp (by decide) e
  · obtain ⟨cc, hc⟩ := own_typ h.hu hx
    exact typ_ne hc hp (by decide) e
/-- What may have changed is none of the arguments' boxes. -/
def KT (B : Nat) (w w' : World) : Prop := Keep (fun z => B ≤ z ∧ ∃ c e, w.heap[z]? = some (.cells c e (0, 0)) ∧ e ≠ 50) w w'
theorem KT.of0 {B : Nat} {w w' : World} (k : Keep (fun _ => False) w w') : KT B w w' := k.mono fun _ _ h => h.elim
theorem KT.of1 {B p e : Nat} {w w' : World} {c : Array Value} (hp : B ≤ p) (h : w.heap[p]? = some (.cells c e (0, 0))) (he : e ≠ 50) (k : Keep (fun z => z = p) w w') : KT B w w' := k.mono fun z _ hz => by subst hz; exact ⟨hp, c, e, h, he⟩
theorem KT.of2 {B p e e2 : Nat} {w w' : World} {c : Array Value} {α : Type} {E : Enc α} {v : Value} {X : List α} (hp : B ≤ p) (h : w.heap[p]? = some (.cells c e (0, 0))) (he : e ≠ 50) (hv : OwnL E w B e2 v X) (he2 : e2 ≠ 50) (k : Keep (fun z => z = p ∨ v.ownBlock = some z) w w') : KT B w w' := k.mono fun z _ hz => by
  rcases hz with hz | hz
  · subst hz; exact ⟨hp, c, e, h, he⟩
  · obtain ⟨c', hc'⟩ := own_typ hv hz
    exact ⟨(hv.lt z hz).1, c', e2, hc', he2⟩
theorem KT.box {B n : Nat} {w w' : World} {c : Array Value} (k : KT B w w') (h : w.heap[n]? = some (.cells c 50 (0, 0))) : w'.heap[n]? = some (.cells c 50 (0, 0)) :=
  (k.block n (block_lt h) (fun ⟨_, c', e, h', he⟩ => typ_ne h h' (Ne.symm he) rfl)).trans h
theorem KT.far {B : Nat} {w w' : World} (k : KT B w w') : Keep (fun z => B ≤ z) w w' := k.mono fun _ _ h => h.1
instance (b : Bk) : Decidable (inR b) := by unfold inR; infer_instance
instance (b : Bk) : Decidable (okB b) := by unfold okB; infer_instance
def frE (Q : List Bk) (b : Bk) : Int := if inR b then if b.f % sz b = 0 then if Q.any (ov b) then 7 else 0 else 4 else 3
def frQ (Q : List Bk) (b : Bk) : List Bk := if okB b ∧ Q.any (ov b) = false then Q ++ [b] else Q
section
variable {w : World} {B p q : Nat} {m : Int} {L : List Fl} {P : List Sp} {Q Q2 : List Bk} {r r2 : Int}

theorem do17 (s y n : Int) (h : TwoX w B p q m L P Q Q2 r r2) (hG : GoodL L) (hl : L.length ≤ 100) (hB : B ≤ w.heap.size) (hp : B ≤ p) :
    Calls Try.prog 17 #[.pointer (some ⟨p, 0, none⟩), .int .i64 s, .int .i64 y, .int .i64 n] w fun e w' => e = .returned (.int .i64 (pgE ⟨s, y, n⟩)) ∧ TwoX w' B p q m (pgG L ⟨s, y, n⟩) P Q Q2 r r2 ∧ KT B w w' := by
  obtain ⟨v, u, pv, bv, h1, h2, h3⟩ := h
  unfold pgE pgG
  by_cases hf : fine ⟨s, y, n⟩
  · rw [if_pos hf, if_pos hf]
    refine (pages_any B p m v u L Q r s y n hf hG.fi hl w hB h1).mono ?_
    rintro e w' ⟨rfl, v', g1, g2, _⟩
    exact ⟨rfl, ⟨v', u, pv, bv, g1, h2.byP h1.hp g2, h3⟩, KT.of1 hp h1.hp (by decide) g2⟩
  · rw [if_neg hf, if_neg hf]
    refine (pages_err p s y n hf w).mono ?_
    rintro e w' ⟨rfl, g1⟩
    exact ⟨rfl, ⟨v, u, pv, bv, h1.keep0 g1, h2.keep0 g1, h3⟩, KT.of0 g1⟩

theorem RepH.byQ {v u pv : Value} {w' : World} {c : Array Value} (h : RepH w B p m v u L Q r) (hq : w.heap[q]? = some (.cells c 37 (0, 0))) (hv : ∀ x, pv.ownBlock = some x → ∃ c, w.heap[x]? = some (.cells c 42 (0, 0))) (k : Keep (fun z => z = q ∨ pv.ownBlock = some z) w w') : RepH w' B p m v u L Q r := by
  have hno : ∀ {x : Nat} {c : Array Value} {e : TypeId}, w.heap[x]? = some (.cells c e (0, 0)) → e ≠ 37 → e ≠ 42 → ¬ (x = q ∨ pv.ownBlock = some x) := fun hx h1 h2 e => by
    rcases e with e | e
    · exact typ_ne hx hq h1 e
    · obtain ⟨c', hc'⟩ := hv _ e
      exact typ_ne hx hc' h2 rfl
  refine h.keep k (hno h.hp (by decide) (by decide)) (fun x hx => ?_) (fun x hx => ?_)
  · obtain ⟨cc, hc⟩ := own_typ h.hv hx
    exact hno hc (by decide) (by decide)
  · obtain ⟨cc, hc⟩ := own_typ h.hu hx
    exact hno hc (by decide) (by decide)

theorem do26 (s y n : Int) (h : TwoX w B p q m L P Q Q2 r r2) (hnd : P.Nodup) (hl : fine ⟨s, y, n⟩ → P.length + n.toNat < 5000) (hB : B ≤ w.heap.size) (hq : B ≤ q) :
    Calls Try.prog 26 #[.pointer (some ⟨q, 0, none⟩), .int .i64 s, .int .i64 y, .int .i64 n] w fun e w' => e = .returned (.int .i64 (pgE ⟨s, y, n⟩)) ∧ (∃ P', TwoX w' B p q m L P' Q Q2 r r2 ∧ P'.Nodup ∧
      (∀ x, x ∈ P' ↔ x ∈ P ∨ (fine ⟨s, y, n⟩ ∧ inF ⟨s, y, n⟩ x.s x.p)) ∧ (fine ⟨s, y, n⟩ → P'.length ≤ P.length + n.toNat) ∧ (¬ fine ⟨s, y, n⟩ → P' = P)) ∧ KT B w w' := by
  obtain ⟨v, u, pv, bv, h1, h2, h3⟩ := h
  unfold pgE
  by_cases hf : fine ⟨s, y, n⟩
  · rw [if_pos hf]
    have hn0 : 1 ≤ n := hf.2.2.1
    refine (pagesX_any B q m pv bv P Q2 r2 s y n hf hnd (hl hf) w hB h2).mono ?_
    rintro e w' ⟨rfl, pv', P', g⟩
    refine ⟨rfl, ⟨P', ⟨v, u, pv', bv, h1.byQ h2.hp (fun x hx => own_typ h2.hv hx) g.keep, g.rep, h3⟩, g.nd, fun x => ?_, fun _ => g.len, fun h => absurd hf h⟩, KT.of2 hq h2.hp (by decide) h2.hv (by decide) g.keep⟩
    rw [g.mem x]
    unfold inF
    simp only
    constructor
    · rintro (h | ⟨a1, a2, a3⟩)
      · exact .inl h
      · exact .inr ⟨hf, a1.symm, a2, by omega⟩
    · rintro (h | ⟨_, a1, a2, a3⟩)
      · exact .inl h
      · exact .inr ⟨a1.symm, a2, by omega⟩
  · rw [if_neg hf]
    refine (pagesX_err q s y n hf w).mono ?_
    rintro e w' ⟨rfl, g1⟩
    exact ⟨rfl, ⟨P, ⟨v, u, pv, bv, h1.keep0 g1, h2.keep0 g1, h3⟩, hnd, fun x => ⟨.inl, fun h => h.elim id (fun h => absurd h.1 hf)⟩, fun h => absurd h hf, fun _ => rfl⟩, KT.of0 g1⟩

theorem do18 (b : Bk) (h : TwoX w B p q m L P Q Q2 r r2) (hQ : ∀ x, x ∈ Q → okB x) (hl : Q.length ≤ 100) (hB : B ≤ w.heap.size) (hp : B ≤ p) :
    Calls Try.prog 18 #[.pointer (some ⟨p, 0, none⟩), .agg #[.int .i64 b.f, .int .i64 b.o]] w fun e w' => e = .returned (.int .i64 (frE Q b)) ∧ TwoX w' B p q m L P (frQ Q b) Q2 r r2 ∧ KT B w w' := by
  obtain ⟨v, u, pv, bv, h1, h2, h3⟩ := h
  unfold frE frQ
  by_cases hi : inR b
  · by_cases ha : b.f % sz b = 0
    · cases hany : Q.any (ov b) with
      | true =>
        rw [if_pos hi, if_pos ha, if_pos rfl, if_neg (by simp)]
        refine (frames_any B p m v u L Q r b ⟨hi, ha⟩ (fun x hx => (hQ x hx).1) hl w hB h1).mono ?_
        rintro e w' ⟨hy, _⟩
        obtain ⟨rfl, g1⟩ := hy hany
        exact ⟨rfl, ⟨v, u, pv, bv, h1.keep0 g1, h2.keep0 g1, h3⟩, KT.of0 g1⟩
      | false =>
        rw [if_pos hi, if_pos ha, if_neg (by simp), if_pos ⟨⟨hi, ha⟩, rfl⟩]
        refine (frames_any B p m v u L Q r b ⟨hi, ha⟩ (fun x hx => (hQ x hx).1) hl w hB h1).mono ?_
        rintro e w' ⟨_, hn⟩
        obtain ⟨rfl, u', g1, g2, g3⟩ := hn hany
        exact ⟨rfl, ⟨v, u', pv, bv, g1, h2.byP h1.hp g2, fun x hx e => by have := g3 x hx; have := (h2.hu.lt x e).2; omega⟩, KT.of1 hp h1.hp (by decide) g2⟩
    · rw [if_pos hi, if_neg ha, if_neg (fun h => ha h.1.2)]
      refine (frames_align p b hi ha w).mono ?_
      rintro e w' ⟨rfl, g1⟩
      exact ⟨rfl, ⟨v, u, pv, bv, h1.keep0 g1, h2.keep0 g1, h3⟩, KT.of0 g1⟩
  · rw [if_neg hi, if_neg (fun h => hi h.1.1)]
    refine (frames_range p b hi w).mono ?_
    rintro e w' ⟨rfl, g1⟩
    exact ⟨rfl, ⟨v, u, pv, bv, h1.keep0 g1, h2.keep0 g1, h3⟩, KT.of0 g1⟩

theorem do27 (b : Bk) (h : TwoX w B p q m L P Q Q2 r r2) (hQ : ∀ x, x ∈ Q2 → okB x) (hl : Q2.length ≤ 100) (hB : B ≤ w.heap.size) (hq : B ≤ q) :
    Calls Try.prog 27 #[.pointer (some ⟨q, 0, none⟩), .agg #[.int .i64 b.f, .int .i64 b.o]] w fun e w' => e = .returned (.int .i64 (frE Q2 b)) ∧ TwoX w' B p q m L P Q (frQ Q2 b) r r2 ∧ KT B w w' := by
  obtain ⟨v, u, pv, bv, h1, h2, h3⟩ := h
  unfold frE frQ
  by_cases hi : inR b
  · by_cases ha : b.f % sz b = 0
    · cases hany : Q2.any (ov b) with
      | true =>
        rw [if_pos hi, if_pos ha, if_pos rfl, if_neg (by simp)]
        refine (framesX_any B q m pv bv P Q2 r2 b ⟨hi, ha⟩ (fun x hx => (hQ x hx).1) hl w hB h2).mono ?_
        rintro e w' ⟨hy, _⟩
        obtain ⟨rfl, g1⟩ := hy hany
        exact ⟨rfl, ⟨v, u, pv, bv, h1.keep0 g1, h2.keep0 g1, h3⟩, KT.of0 g1⟩
      | false =>
        rw [if_pos hi, if_pos ha, if_neg (by simp), if_pos ⟨⟨hi, ha⟩, rfl⟩]
        refine (framesX_any B q m pv bv P Q2 r2 b ⟨hi, ha⟩ (fun x hx => (hQ x hx).1) hl w hB h2).mono ?_
        rintro e w' ⟨_, hn⟩
        obtain ⟨rfl, bv', g1, g2, g3⟩ := hn hany
        have hno : ∀ {x : Nat} {c : Array Value} {e : TypeId}, w.heap[x]? = some (.cells c e (0, 0)) → e ≠ 37 → e ≠ 48 → ¬ (x = q ∨ bv.ownBlock = some x) := fun hx k1 k2 e => by
          rcases e with e | e
          · exact typ_ne hx h2.hp k1 e
          · obtain ⟨c', hc'⟩ := own_typ h2.hu e
            exact typ_ne hx hc' k2 rfl
        refine ⟨rfl, ⟨v, u, pv, bv', h1.keep g2 (hno h1.hp (by decide) (by decide)) (fun x hx => ?_) (fun x hx e => ?_), g1, fun x hx e => ?_⟩, KT.of2 hq h2.hp (by decide) h2.hu (by decide) g2⟩
        · obtain ⟨cc, hc⟩ := own_typ h1.hv hx
          exact hno hc (by decide) (by decide)
        · rcases e with e | e
          · obtain ⟨cc, hc⟩ := own_typ h1.hu hx
            exact typ_ne hc h2.hp (by decide) e
          · exact h3 x hx e
        · rcases g3 x e with e | e
          · exact h3 x hx e
          · have := (h1.hu.lt x hx).2; omega
    · rw [if_pos hi, if_neg ha, if_neg (fun h => ha h.1.2)]
      refine (framesX_align q b hi ha w).mono ?_
      rintro e w' ⟨rfl, g1⟩
      exact ⟨rfl, ⟨v, u, pv, bv, h1.keep0 g1, h2.keep0 g1, h3⟩, KT.of0 g1⟩
  · rw [if_neg hi, if_neg (fun h => hi h.1.1)]
    refine (framesX_range q b hi w).mono ?_
    rintro e w' ⟨rfl, g1⟩
    exact ⟨rfl, ⟨v, u, pv, bv, h1.keep0 g1, h2.keep0 g1, h3⟩, KT.of0 g1⟩

theorem do10 (h : TwoX w B p q m L P Q Q2 r r2) (hG : GoodL L) (hr : r < 900) (hp : B ≤ p) :
    Calls Try.prog 10 #[.pointer (some ⟨p, 0, none⟩)] w fun e w' => ∃ v' u' D, e = .returned (.tuple #[v', u']) ∧ D.Perm L ∧ D.Pairwise leF ∧ OwnL flE w' B 40 v' D ∧ OwnL bkE w' B 48 u' Q ∧ TwoX w' B p q m [] P [] Q2 (takR L.length Q.length r) r2 ∧ KT B w w' := by
  obtain ⟨v, u, pv, bv, h1, h2, h3⟩ := h
  by_cases h0 : L.length + Q.length = 0
  · obtain rfl : L = [] := List.eq_nil_of_length_eq_zero (by omega)
    obtain rfl : Q = [] := List.eq_nil_of_length_eq_zero (by omega)
    refine (take_empty B p m v u r w h1).mono ?_
    rintro e w' ⟨rfl, g1⟩
    exact ⟨_, _, [], rfl, List.Perm.refl _, List.Pairwise.nil, OwnL.nil _ _ _, OwnL.nil _ _ _, ⟨v, u, pv, bv, h1.keep0 g1, h2.keep0 g1, h3⟩, KT.of0 g1⟩
  · refine (take_some B p m v u L Q r hG.fi h0 hr w h1).mono ?_
    rintro e w' ⟨D, r', rfl, g1, g2, g3, g4, g5, g6, gk⟩
    rw [if_neg h0] at g6
    have hno : ∀ {x : Nat} {c : Array Value} {e : TypeId}, w.heap[x]? = some (.cells c e (0, 0)) → e ≠ 59 → e ≠ 40 → ¬ (x = p ∨ v.ownBlock = some x) := fun hx k1 k2 e => by
      rcases e with e | e
      · exact typ_ne hx h1.hp k1 e
      · obtain ⟨c', hc'⟩ := own_typ h1.hv e
        exact typ_ne hx hc' k2 rfl
    refine ⟨_, _, D, rfl, g1, g2, g3, g4, ⟨_, _, pv, bv, by rw [show takR L.length Q.length r = r' by rw [g6]; unfold takR; rw [if_neg h0]]; exact g5, h2.keep gk (hno h2.hp (by decide) (by decide)) (fun x hx => ?_) (fun x hx => ?_), fun x hx => by cases hx⟩, KT.of2 hp h1.hp (by decide) h1.hv (by decide) gk⟩
    · obtain ⟨cc, hc⟩ := own_typ h2.hv hx
      exact hno hc (by decide) (by decide)
    · obtain ⟨cc, hc⟩ := own_typ h2.hu hx
      exact hno hc (by decide) (by decide)

theorem do11 (h : TwoX w B p q m L P Q Q2 r r2) (hnd : P.Nodup) (hran : ∀ x, x ∈ P → 0 ≤ x.s ∧ 0 ≤ x.p ∧ x.p < 4096) (hr : r2 < 900) (hB : B ≤ w.heap.size) (hq : B ≤ q) :
    Calls Try.prog 11 #[.pointer (some ⟨q, 0, none⟩)] w fun e w' => ∃ vo c D, e = .returned (.tuple #[vo, c]) ∧ TkI P [] D ∧ OwnL flE w' B 40 vo D ∧ OwnL bkE w' B 48 c Q2 ∧ TwoX w' B p q m L [] Q [] r (takR P.length Q2.length r2) ∧ Keep (fun z => z = q) w w' ∧ KT B w w' := by
  obtain ⟨v, u, pv, bv, h1, h2, h3⟩ := h
  refine (takeX_any B q m pv bv P Q2 r2 hnd hran hr w hB h2).mono ?_
  rintro e w' ⟨vo, D, rfl, g1, g2, g3, g4, g5⟩
  exact ⟨vo, bv, D, rfl, g2, g1.base fun x hx => Nat.le_trans hB (g1.lt x hx).1, g4, ⟨v, u, _, _, h1.byQ (pv := .slice none 0 0) h2.hp (fun x hx => by cases hx) (g5.mono fun _ _ h => .inl h), g3, fun x hx e => by cases e⟩, g5, KT.of1 hq h2.hp (by decide) g5⟩
end

/-- Both, behind i calls. -/
structure St (w wr : World) (p q : Nat) (m : Int) (L : List Fl) (P : List Sp) (Q : List Bk) (r : Int) (i : Nat) : Prop where
  two : TwoX wr w.heap.size p q m L P Q Q r r
  good : GoodL L
  nd : P.Nodup
  cv : ∀ s y, (⟨s, y⟩ : Sp) ∈ P ↔ cov L s y
  ok : ∀ x, x ∈ Q → okB x
  ll : L.length ≤ i
  lp : P.length ≤ 60 * i
  lq : Q.length ≤ i
  lr : 0 ≤ r ∧ r ≤ i
  keep : Keep (fun _ => False) w wr
theorem St.on {w wr w4 : World} {p q : Nat} {m : Int} {L : List Fl} {P : List Sp} {Q : List Bk} {r : Int} {i : Nat} (h : St w wr p q m L P Q r i) (K : Keep (fun _ => False) wr w4) : St w w4 p q m L P Q r i :=
  ⟨h.two.keep0 K, h.good, h.nd, h.cv, h.ok, h.ll, h.lp, h.lq, h.lr, h.keep.trans K⟩
theorem St.ran {w wr : World} {p q : Nat} {m : Int} {L : List Fl} {P : List Sp} {Q : List Bk} {r : Int} {i : Nat} (h : St w wr p q m L P Q r i) : ∀ x, x ∈ P → 0 ≤ x.s ∧ 0 ≤ x.p ∧ x.p < 4096 := by
  intro x hx
  obtain ⟨y, hy, h1, h2, h3⟩ := (h.cv x.s x.p).mp hx
  have := h.good.fi y hy
  unfold fine at this
  omega
theorem frQ_ok {Q : List Bk} {b : Bk} (h : ∀ x, x ∈ Q → okB x) : ∀ x, x ∈ frQ Q b → okB x := by
  intro x hx
  unfold frQ at hx
  split at hx
  · rename_i h2
    rcases List.mem_append.mp hx with hx | hx
    · exact h x hx
    · simp only [List.mem_singleton] at hx; subst hx; exact h2.1
  · exact h x hx
theorem frQ_len (Q : List Bk) (b : Bk) : (frQ Q b).length ≤ Q.length + 1 := by
  unfold frQ
  split
  · simp
  · omega

end Go.Proofs.Ytibcfglfcoljgaa
