/- Memory: both objects. -/
import Derived.Test.YtjffdimlbppgcaaGreatRC
import Derived.Test.YtjffdimlbppgcaaGreatFA
import Derived.Test.YtjffdimlbppgcaaGreatKR
import Derived.Test.YtjffdimlbppgcaaGreatKI
set_option linter.unusedVariables false
set_option linter.unusedSimpArgs false
namespace Go.Proofs.YtjffdimlbppgcaaGreat
open Go.RowKit Go.Own

structure Ad where
  B : Nat
  m : Nat
  r : Nat
  rb : Nat
  k : Nat
  b : Nat
  kr : Nat
  f : Nat
  q : Nat
  n : Nat
  mark : Nat
  X : Nat
  K : Nat
  x : Nat
  g : Nat
  rr : Nat
  cap : Nat
  W : Nat
  wg : Nat
structure PS where
  F : Nat → Bool
  M : Nat → Int
  L : List Int
  W : Nat → Nat
/-- The program's object. -/
structure Mo (w : World) (A : Ad) (N : Nat → Prop) (P : PS) : Prop where
  hm : w.heap[A.m]? = some (.cells #[.pointer (some ⟨A.r, 0, none⟩), .pointer (some ⟨A.k, 0, none⟩), .pointer (some ⟨A.f, 0, none⟩), .int .i64 A.mark] 74 (0, 0))
  ko : KO w A.B A.k A.b A.kr A.n P.F P.M N
  ra : RA w A.r A.rb A.n P.W
  rf : Fr.RepF w A.f A.q P.L
  ln : P.L.length = A.n
  nq : N A.q
  ne : A.kr ≠ A.q
  mk8 : A.mark ≤ A.n
  bm : A.B ≤ A.b ∧ A.B ≤ A.rb ∧ A.B ≤ A.f ∧ A.B ≤ A.kr ∧ A.B ≤ A.q
/-- The reference's. -/
structure Mx (w : World) (A : Ad) (iv : Value) (P : PS) : Prop where
  hX : w.heap[A.X]? = some (.cells #[.pointer (some ⟨A.K, 0, none⟩), .pointer (some ⟨A.W, 0, none⟩), iv, .int .i64 A.mark] 50 (0, 0))
  rk : RK w A.K A.x A.g A.rr A.cap A.n P.F P.M
  rw : RW w A.W A.wg A.n P.W
  ri : w.ownsRow A.B 3 1 iv A.n (P.L.map (Value.int .i64))
  ln : P.L.length = A.n
  ne : ∀ z, iv.ownBlock = some z → z ≠ A.rr
  bx : A.B ≤ A.X ∧ A.B ≤ A.g ∧ A.B ≤ A.rr ∧ A.B ≤ A.wg
/-- What a call of the program's may change. -/
def PC (A : Ad) (N : Nat → Prop) (w : World) (z : Nat) : Prop := z = A.b ∨ z = A.rb ∨ z = A.f ∨ z = A.kr ∨ z = A.q ∨ GK A.B N w z
/-- What a call of the reference's may change. -/
def RC (A : Ad) (iv : Value) (z : Nat) : Prop := z = A.g ∨ z = A.wg ∨ z = A.X ∨ z = A.rr ∨ iv.ownBlock = some z
/-- Both. -/
structure Bo (w : World) (A : Ad) (N : Nat → Prop) (iv : Value) (P P' : PS) : Prop where
  mo : Mo w A N P
  mx : Mx w A iv P'
  nr : N A.rr
  ni : ∀ z, iv.ownBlock = some z → N z
  n1 : A.kr ≠ A.rr ∧ A.q ≠ A.rr
  n2 : ∀ z, iv.ownBlock = some z → z ≠ A.kr ∧ z ≠ A.q
/-- What a call of either may change, by types. -/
def KM (A : Ad) (w w' : World) : Prop := Keep (fun z => A.B ≤ z ∧ ∃ c e, w.heap[z]? = some (.cells c e (0, 0)) ∧ (e = 118 ∨ e = 5 ∨ e = 104 ∨ e = 3 ∨ e = 4 ∨ e = 35 ∨ e = 50)) w w'
theorem own_typ3 {w : World} {B n z : Nat} {v : Value} {xs : List Value} (h : w.ownsRow B 3 1 v n xs) (hz : v.ownBlock = some z) : (∃ c, w.heap[z]? = some (.cells c 3 (0, 0))) ∧ B ≤ z := by
  rcases h.2 with ⟨rfl, _⟩ | ⟨g, cap, cur, rfl, hB, hg, _⟩
  · cases hz
  · simp [Value.ownBlock] at hz; subst hz; exact ⟨⟨_, hg⟩, hB⟩
section
variable {w w' w1 w2 : World} {A : Ad} {N N' : Nat → Prop} {iv iv' : Value} {P P' P1 : PS}
theorem KM.refl (A : Ad) (w : World) : KM A w w := Keep.refl _ _
theorem KM.trans (h : KM A w w2) (k : KM A w2 w') : KM A w w' := by
  refine ⟨k.os.trans h.os, k.tape.trans h.tape, k.output.trans h.output, Nat.le_trans h.size k.size, fun z hz hs => ?_⟩
  rw [k.block z (Nat.lt_of_lt_of_le hz h.size) ?_]
  · exact h.block z hz hs
  · rintro ⟨h1, c, e, h2, h3⟩
    exact hs ⟨h1, c, e, (h.block z hz hs).symm.trans h2, h3⟩
theorem KM.of (h : Keep (fun _ => False) w w') : KM A w w' := h.mono fun _ _ h => h.elim
theorem km_block {b e : Nat} {c : Array Value} (k : KM A w w') (hb : w.heap[b]? = some (.cells c e (0, 0))) (he : e ≠ 118 ∧ e ≠ 5 ∧ e ≠ 104 ∧ e ≠ 3 ∧ e ≠ 4 ∧ e ≠ 35 ∧ e ≠ 50) : w'.heap[b]? = some (.cells c e (0, 0)) := by
  rw [k.block b (block_lt hb) ?_]
  · exact hb
  · rintro ⟨_, c', e', h2, h3⟩
    rw [hb] at h2
    injection h2 with h2
    injection h2 with _ h2 _
    subst h2
    obtain ⟨a1, a2, a3, a4, a5, a6, a7⟩ := he
    rcases h3 with h | h | h | h | h | h | h
    · exact a1 h
    · exact a2 h
    · exact a3 h
    · exact a4 h
    · exact a5 h
    · exact a6 h
    · exact a7 h
theorem km_up (k : KM A w w') : Keep (fun z => A.B ≤ z) w w' := k.mono fun z _ h => h.1
theorem Mo.keep {S : Nat → Prop} (h : Mo w A N P) (k : Keep S w w') (h1 : ¬ S A.m) (h2 : ¬ S A.k) (h3 : ¬ S A.b) (h4 : ∀ z, GK A.B N w z → ¬ S z) (h5 : ¬ S A.kr) (h6 : ¬ S A.r) (h7 : ¬ S A.rb) (h8 : ¬ S A.f) (h9 : ¬ S A.q) : Mo w' A N P :=
  ⟨(k.block A.m (block_lt h.hm) h1).trans h.hm, ⟨(k.block A.k (block_lt h.ko.hk) h2).trans h.ko.hk, (h.ko.bf.keep k h3 h4).gk (fun z hz => hz.1.2.2), h.ko.mt.keep k h5, h.ko.nk, fun z hz => Nat.lt_of_lt_of_le (h.ko.nl z hz) k.size, Nat.le_trans h.ko.hB k.size⟩,
    h.ra.keep k h6 h7, ⟨(k.block A.f (block_lt h.rf.hp) h8).trans h.rf.hp, (k.block A.q (block_lt h.rf.hq) h9).trans h.rf.hq, h.rf.ne, h.rf.lo, h.rf.hi, h.rf.st⟩, h.ln, h.nq, h.ne, h.mk8, h.bm⟩
theorem Mo.keep0 (h : Mo w A N P) (k : Keep (fun _ => False) w w') : Mo w' A N P := h.keep k id id id (fun _ _ => id) id id id id id
theorem Mx.keep {S : Nat → Prop} (h : Mx w A iv P) (k : Keep S w w') (h1 : ¬ S A.X) (h2 : ∀ z, S z → z ≠ A.K ∧ z ≠ A.x ∧ z ≠ A.g ∧ z ≠ A.rr) (h3 : ¬ S A.W) (h4 : ¬ S A.wg) (h5 : ∀ z, iv.ownBlock = some z → ¬ S z) : Mx w' A iv P :=
  ⟨(k.block A.X (block_lt h.hX) h1).trans h.hX, h.rk.keep k h2, h.rw.keep k h3 h4, k.own h.ri h5, h.ln, h.ne, h.bx⟩
theorem Mx.keep0 (h : Mx w A iv P) (k : Keep (fun _ => False) w w') : Mx w' A iv P := h.keep k id (fun _ h => h.elim) id id (fun _ _ => id)
theorem Bo.keep0 (h : Bo w A N iv P P') (k : Keep (fun _ => False) w w') : Bo w' A N iv P P' := ⟨h.mo.keep0 k, h.mx.keep0 k, h.nr, h.ni, h.n1, h.n2⟩
theorem Bo.prog (h : Bo w A N iv P P') (m : Mo w1 A N P1) (k : Keep (PC A N w) w w1) : Bo w1 A N iv P1 P' ∧ KM A w w1 := by
  obtain ⟨c1, t1⟩ := h.mo.ko.bf.hp
  obtain ⟨c2, t2⟩ := h.mo.ra.mb.typ
  have t3 := h.mo.rf.hp
  obtain ⟨c4, t4⟩ := h.mo.ko.mt.typ
  have t5 : w.heap[A.q]? = some (.cells _ 3 (0, 0)) := h.mo.rf.hq
  obtain ⟨CG, tg, _⟩ := h.mx.rk.rx.2
  obtain ⟨c6, t6⟩ := h.mx.rk.mt.typ
  obtain ⟨c7, t7⟩ := h.mx.rw.mg.typ
  have hne : ∀ {b e : Nat} {c : Array Value}, w.heap[b]? = some (.cells c e (0, 0)) → e ≠ 118 ∧ e ≠ 5 ∧ e ≠ 104 ∧ e ≠ 3 → ¬ PC A N w b := by
    rintro b e c hb ⟨e1, e2, e3, e4⟩ (rfl | rfl | rfl | rfl | rfl | ⟨_, c8, h8⟩)
    · exact typ_ne hb t1 e1 rfl
    · exact typ_ne hb t2 e2 rfl
    · exact typ_ne hb t3 e3 rfl
    · exact typ_ne hb t4 e4 rfl
    · exact typ_ne hb t5 e4 rfl
    · exact typ_ne hb h8 e4 rfl
  have hn3 : ∀ z, (∃ c, w.heap[z]? = some (.cells c 3 (0, 0))) → N z → z ≠ A.kr → z ≠ A.q → ¬ PC A N w z := by
    rintro z ⟨c, hz⟩ hN h1 h2 (rfl | rfl | rfl | rfl | rfl | ⟨⟨_, _, h8⟩, _⟩)
    · exact typ_ne hz t1 (by decide) rfl
    · exact typ_ne hz t2 (by decide) rfl
    · exact typ_ne hz t3 (by decide) rfl
    · exact h1 rfl
    · exact h2 rfl
    · exact h8 hN
  refine ⟨⟨m, h.mx.keep k (hne h.mx.hX (by decide)) ?_ (hne h.mx.rw.hx (by decide)) (hne t7 (by decide)) ?_, h.nr, h.ni, h.n1, h.n2⟩, k.mono ?_⟩
  · intro z hz
    refine ⟨?_, ?_, ?_, ?_⟩ <;> rintro rfl
    · exact hne h.mx.rk.hX (by decide) hz
    · exact hne h.mx.rk.rx.1 (by decide) hz
    · exact hne tg (by decide) hz
    · exact hn3 _ ⟨_, t6⟩ h.nr h.n1.1.symm h.n1.2.symm hz
  · intro z hz
    exact hn3 z (own_typ3 h.mx.ri hz).1 (h.ni z hz) (h.n2 z hz).1 (h.n2 z hz).2
  · have hb := h.mo.bm
    rintro z _ (rfl | rfl | rfl | rfl | rfl | ⟨⟨h1, _⟩, c8, h8⟩)
    · exact ⟨hb.1, _, _, t1, by decide⟩
    · exact ⟨hb.2.1, _, _, t2, by decide⟩
    · exact ⟨hb.2.2.1, _, _, t3, by decide⟩
    · exact ⟨hb.2.2.2.1, _, _, t4, by decide⟩
    · exact ⟨hb.2.2.2.2, _, _, t5, by decide⟩
    · exact ⟨h1, _, _, h8, by decide⟩
theorem Mo.keepN {S : Nat → Prop} {D : Nat → Prop} (h : Mo w A N P) (k : Keep S w w') (h1 : ¬ S A.m) (h2 : ¬ S A.k) (h3 : ¬ S A.b) (h4 : ∀ z, GK A.B N w z → ¬ S z) (h5 : ¬ S A.kr) (h6 : ¬ S A.r) (h7 : ¬ S A.rb) (h8 : ¬ S A.f) (h9 : ¬ S A.q)
    (hD : ∀ z, D z → z < w'.heap.size ∧ (w.heap.size ≤ z ∨ N z)) : Mo w' A (fun z => N z ∨ D z) P :=
  ⟨(k.block A.m (block_lt h.hm) h1).trans h.hm, ⟨(k.block A.k (block_lt h.ko.hk) h2).trans h.ko.hk, (h.ko.bf.keep k h3 h4).gk (fun z hz hn => by
      rcases hn with hn | hn
      · exact hz.1.2.2 hn
      · rcases (hD z hn).2 with h | h
        · have := hz.1.2.1; omega
        · exact hz.1.2.2 h), h.ko.mt.keep k h5, .inl h.ko.nk, fun z hz => hz.elim (fun h' => Nat.lt_of_lt_of_le (h.ko.nl z h') k.size) (fun hd => (hD z hd).1), Nat.le_trans h.ko.hB k.size⟩,
    h.ra.keep k h6 h7, ⟨(k.block A.f (block_lt h.rf.hp) h8).trans h.rf.hp, (k.block A.q (block_lt h.rf.hq) h9).trans h.rf.hq, h.rf.ne, h.rf.lo, h.rf.hi, h.rf.st⟩, h.ln, .inl h.nq, h.ne, h.mk8, h.bm⟩
theorem Bo.ref (h : Bo w A N iv P P') (m : Mx w1 A iv' P1) (k : Keep (RC A iv) w w1) (hv : ∀ z, iv'.ownBlock = some z → iv.ownBlock = some z ∨ w.heap.size ≤ z) : (∃ N', Bo w1 A N' iv' P P1) ∧ KM A w w1 := by
  obtain ⟨CG, tg, _⟩ := h.mx.rk.rx.2
  obtain ⟨c6, t6⟩ := h.mx.rk.mt.typ
  obtain ⟨c7, t7⟩ := h.mx.rw.mg.typ
  have t5 : w.heap[A.q]? = some (.cells _ 3 (0, 0)) := h.mo.rf.hq
  obtain ⟨c4, t4⟩ := h.mo.ko.mt.typ
  obtain ⟨c1, t1⟩ := h.mo.ko.bf.hp
  obtain ⟨c2, t2⟩ := h.mo.ra.mb.typ
  have hne : ∀ {b e : Nat} {c : Array Value}, w.heap[b]? = some (.cells c e (0, 0)) → e ≠ 4 ∧ e ≠ 35 ∧ e ≠ 50 ∧ e ≠ 3 → ¬ RC A iv b := by
    rintro b e c hb ⟨e1, e2, e3, e4⟩ (rfl | rfl | rfl | rfl | hv)
    · exact typ_ne hb tg e1 rfl
    · exact typ_ne hb t7 e2 rfl
    · exact typ_ne hb h.mx.hX e3 rfl
    · exact typ_ne hb t6 e4 rfl
    · obtain ⟨⟨c9, h9⟩, _⟩ := own_typ3 h.mx.ri hv
      exact typ_ne hb h9 e4 rfl
  have hn3 : ∀ z, (∃ c, w.heap[z]? = some (.cells c 3 (0, 0))) → z ≠ A.rr → iv.ownBlock ≠ some z → ¬ RC A iv z := by
    rintro z ⟨c, hz⟩ h1 h2 (rfl | rfl | rfl | rfl | hv)
    · exact typ_ne hz tg (by decide) rfl
    · exact typ_ne hz t7 (by decide) rfl
    · exact typ_ne hz h.mx.hX (by decide) rfl
    · exact h1 rfl
    · exact h2 hv
  refine ⟨⟨fun z => N z ∨ iv'.ownBlock = some z, h.mo.keepN k (hne h.mo.hm (by decide)) (hne h.mo.ko.hk (by decide)) (hne t1 (by decide)) ?_ (hn3 _ ⟨_, t4⟩ h.n1.1 ?_) (hne h.mo.ra.hr (by decide)) (hne t2 (by decide)) (hne h.mo.rf.hp (by decide)) (hn3 _ ⟨_, t5⟩ h.n1.2 ?_) ?_, m, .inl h.nr, fun z hz => .inr hz, h.n1, ?_⟩, k.mono ?_⟩
  · rintro z ⟨⟨_, _, h8⟩, hz⟩
    exact hn3 z hz (fun e => h8 (e ▸ h.nr)) (fun e => h8 (h.ni z e))
  · exact fun e => (h.n2 _ e).1 rfl
  · exact fun e => (h.n2 _ e).2 rfl
  · intro z hz
    refine ⟨?_, ?_⟩
    · obtain ⟨⟨c9, h9⟩, _⟩ := own_typ3 m.ri hz
      exact block_lt h9
    · rcases hv z hz with h1 | h1
      · exact .inr (h.ni z h1)
      · exact .inl h1
  · intro z hz
    rcases hv z hz with h1 | h1
    · exact h.n2 z h1
    · have a1 := block_lt t4
      have a2 := block_lt t5
      omega
  · have hb := h.mx.bx
    rintro z _ (rfl | rfl | rfl | rfl | hz)
    · exact ⟨hb.2.1, _, _, tg, by decide⟩
    · exact ⟨hb.2.2.2, _, _, t7, by decide⟩
    · exact ⟨hb.1, _, _, h.mx.hX, by decide⟩
    · exact ⟨hb.2.2.1, _, _, t6, by decide⟩
    · obtain ⟨⟨c9, h9⟩, h10⟩ := own_typ3 h.mx.ri hz
      exact ⟨h10, _, _, h9, by decide⟩
end

end Go.Proofs.YtjffdimlbppgcaaGreat
