/- Memory: both objects. -/
import Derived.Test.YtjffdimlbppgcaaRB
import Derived.Test.YtjffdimlbppgcaaFA
import Derived.Test.YtjffdimlbppgcaaKN
import Derived.Test.YtjffdimlbppgcaaKI
set_option linter.unusedVariables false
set_option linter.unusedSimpArgs false
namespace Go.Proofs.Ytjffdimlbppgcaa
open Go.RowKit Go.Own

structure Ad where
  B : Nat
  m : Nat
  r : Nat
  rb : Nat
  k : Nat
  b : Nat
  kr : Nat
  f : Nat
  q : Nat
  n : Nat
  mark : Nat
  X : Nat
  K : Nat
  x : Nat
  g : Nat
  rr : Nat
  cap : Nat
  W : Nat
  wg : Nat
structure PS where
  F : Nat → Bool
  M : Nat → Int
  L : List Int
  W : Nat → Nat
/-- The program's object. -/
structure Mo (w : World) (A : Ad) (N : Nat → Prop) (P : PS) : Prop where
  hm : w.heap[A.m]? = some (.cells #[.pointer (some ⟨A.r, 0, none⟩), .pointer (some ⟨A.k, 0, none⟩), .pointer (some ⟨A.f, 0, none⟩), .int .i64 A.mark] 44 (0, 0))
  ko : KO w A.B A.k A.b A.kr A.n P.F P.M N
  ra : RA w A.r A.rb A.n P.W
  rf : Fr.RepF w A.f A.q P.L
  ln : P.L.length = A.n
  nq : N A.q
  ne : A.kr ≠ A.q
  mk8 : A.mark ≤ A.n
  bm : A.B ≤ A.b ∧ A.B ≤ A.rb ∧ A.B ≤ A.f ∧ A.B ≤ A.kr ∧ A.B ≤ A.q
/-- What a call of the program's may change. -/
def PC (A : Ad) (N : Nat → Prop) (w : World) (z : Nat) : Prop := z = A.b ∨ z = A.rb ∨ z = A.f ∨ z = A.kr ∨ z = A.q ∨ GK A.B N w z
/-- What a call of the reference's may change. -/
def RC (A : Ad) (iv : Value) (z : Nat) : Prop := z = A.g ∨ z = A.wg ∨ z = A.X ∨ z = A.rr ∨ iv.ownBlock = some z
/-- What a call of either may change, by types. -/
def KM (A : Ad) (w w' : World) : Prop := Keep (fun z => A.B ≤ z ∧ ∃ c e, w.heap[z]? = some (.cells c e (0, 0)) ∧ (e = 118 ∨ e = 5 ∨ e = 104 ∨ e = 3 ∨ e = 4 ∨ e = 35 ∨ e = 50)) w w'
theorem own_typ3 {w : World} {B n z : Nat} {v : Value} {xs : List Value} (h : w.ownsRow B 3 1 v n xs) (hz : v.ownBlock = some z) : (∃ c, w.heap[z]? = some (.cells c 3 (0, 0))) ∧ B ≤ z := by
  rcases h.2 with ⟨rfl, _⟩ | ⟨g, cap, cur, rfl, hB, hg, _⟩
  · cases hz
  · simp [Value.ownBlock] at hz; subst hz; exact ⟨⟨_, hg⟩, hB⟩
section
variable {w w' w1 w2 : World} {A : Ad} {N N' : Nat → Prop} {iv iv' : Value} {P P' P1 : PS}
theorem KM.refl (A : Ad) (w : World) : KM A w w := Keep.refl _ _
theorem KM.trans (h : KM A w w2) (k : KM A w2 w') : KM A w w' := by
  refine ⟨k.os.trans h.os, k.tape.trans h.tape, k.output.trans h.output, Nat.le_trans h.size k.size, fun z hz hs => ?_⟩
  rw [k.block z (Nat.lt_of_lt_of_le hz h.size) ?_]
  · exact h.block z hz hs
  · rintro ⟨h1, c, e, h2, h3⟩
    exact hs ⟨h1, c, e, (h.block z hz hs).symm.trans h2, h3⟩
theorem KM.of (h : Keep (fun _ => False) w w') : KM A w w' := h.mono fun _ _ h => h.elim
theorem km_up (k : KM A w w') : Keep (fun z => A.B ≤ z) w w' := k.mono fun z _ h => h.1
theorem Mo.keep {S : Nat → Prop} (h : Mo w A N P) (k : Keep S w w') (h1 : ¬ S A.m) (h2 : ¬ S A.k) (h3 : ¬ S A.b) (h4 : ∀ z, GK A.B N w z → ¬ S z) (h5 : ¬ S A.kr) (h6 : ¬ S A.r) (h7 : ¬ S A.rb) (h8 : ¬ S A.f) (h9 : ¬ S A.q) : Mo w' A N P :=
  ⟨(k.block A.m (block_lt h.hm) h1).trans h.hm, ⟨(k.block A.k (block_lt h.ko.hk) h2).trans h.ko.hk, (h.ko.bf.keep k h3 h4).gk (fun z hz => hz.1.2.2), h.ko.mt.keep k h5, h.ko.nk, fun z hz => Nat.lt_of_lt_of_le (h.ko.nl z hz) k.size, Nat.le_trans h.ko.hB k.size⟩,
    h.ra.keep k h6 h7, ⟨(k.block A.f (block_lt h.rf.hp) h8).trans h.rf.hp, (k.block A.q (block_lt h.rf.hq) h9).trans h.rf.hq, h.rf.ne, h.rf.lo, h.rf.hi, h.rf.st⟩, h.ln, h.nq, h.ne, h.mk8, h.bm⟩
theorem Mo.keep0 (h : Mo w A N P) (k : Keep (fun _ => False) w w') : Mo w' A N P := h.keep k id id id (fun _ _ => id) id id id id id
theorem Mo.keepN {S : Nat → Prop} {D : Nat → Prop} (h : Mo w A N P) (k : Keep S w w') (h1 : ¬ S A.m) (h2 : ¬ S A.k) (h3 : ¬ S A.b) (h4 : ∀ z, GK A.B N w z → ¬ S z) (h5 : ¬ S A.kr) (h6 : ¬ S A.r) (h7 : ¬ S A.rb) (h8 : ¬ S A.f) (h9 : ¬ S A.q)
    (hD : ∀ z, D z → z < w'.heap.size ∧ (w.heap.size ≤ z ∨ N z)) : Mo w' A (fun z => N z ∨ D z) P :=
  ⟨(k.block A.m (block_lt h.hm) h1).trans h.hm, ⟨(k.block A.k (block_lt h.ko.hk) h2).trans h.ko.hk, (h.ko.bf.keep k h3 h4).gk (fun z hz hn => by
      rcases hn with hn | hn
      · exact hz.1.2.2 hn
      · rcases (hD z hn).2 with h | h
        · have := hz.1.2.1; omega
        · exact hz.1.2.2 h), h.ko.mt.keep k h5, .inl h.ko.nk, fun z hz => hz.elim (fun h' => Nat.lt_of_lt_of_le (h.ko.nl z h') k.size) (fun hd => (hD z hd).1), Nat.le_trans h.ko.hB k.size⟩,
    h.ra.keep k h6 h7, ⟨(k.block A.f (block_lt h.rf.hp) h8).trans h.rf.hp, (k.block A.q (block_lt h.rf.hq) h9).trans h.rf.hq, h.rf.ne, h.rf.lo, h.rf.hi, h.rf.st⟩, h.ln, .inl h.nq, h.ne, h.mk8, h.bm⟩
end

end Go.Proofs.Ytjffdimlbppgcaa
