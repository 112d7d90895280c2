/- Gather: GatherOrders, the walk. -/
import Derived.Test.YtibcfglfcoljgaaY
import Derived.Deep.DeepCutAuto
import Derived.Deep.Cut
import Derived.Deep.CutRange
set_option linter.unusedVariables false
set_option linter.unusedSimpArgs false
namespace Go.Proofs.Ytibcfglfcoljgaa
open Go.RowKit Go.Own

theorem far {S : Nat → Prop} {w a b : World} (h : Keep (fun _ => False) w a) (k : Keep S a b) (hS : ∀ x, S x → w.heap.size ≤ x) : Keep (fun _ => False) w b :=
  ((h.mono (fun _ _ h => h.elim)).trans k).fresh hS (Nat.le_refl _)
theorem nat100 {a b k : Nat} (h : a ≤ b + 1) (h2 : b ≤ 2 * k) (h3 : k ≤ 25) : a ≤ 100 := by omega
theorem natD {a b k : Nat} (h : a = b) (h2 : b ≤ k) (h3 : k ≤ 25) : a ≤ 1000000 := by omega
/-- A call lies at n. -/
abbrev L6 (w : World) (n : Nat) (x : Ac) : Prop := w.cell? ⟨n, 1, none⟩ = some (.int .i64 (acF x).s) ∧ w.cell? ⟨n, 2, none⟩ = some (.int .i64 (acF x).p) ∧ w.cell? ⟨n, 3, none⟩ = some (.int .i64 (acF x).n)
theorem L6_past {w w' : World} {n p B : Nat} {x : Ac} (h : L6 w n x) (hp : p < B) (hn : B ≤ n) (k : Keep (fun z => z = p) w w') : L6 w' n x := by
  have hne : n ≠ p := by omega
  obtain ⟨h1, h2, h3⟩ := h
  exact ⟨(k.cell (block_lt_cell h1) hne).trans h1, (k.cell (block_lt_cell h2) hne).trans h2, (k.cell (block_lt_cell h3) hne).trans h3⟩
theorem light_ag (x : Ac) (w : World) : Calls Try.prog 16 #[.agg #[.int .i64 x.k, .int .i64 x.s, .int .i64 x.p, .int .i64 x.n, .int .i64 x.f, .int .i64 x.o]] w fun e w' => e = .returned (.agg #[.int .i64 x.k, .int .i64 (acF x).s, .int .i64 (acF x).p, .int .i64 (acF x).n, .int .i64 x.f, .int .i64 x.o]) ∧ Keep (fun _ => False) w w' := light_any x w
/-- What a call leaves as it was, at one block. -/
theorem facts_k {W w5 : World} {G : Prop} {b : Nat} (h : Keep (fun _ => False) W w5) (hb : b < W.heap.size) (k : (∀ i, w5.cell? ⟨b, i, none⟩ = W.cell? ⟨b, i, none⟩) → (∀ i, w5.frozen? ⟨b, i, none⟩ = W.frozen? ⟨b, i, none⟩) → b < w5.heap.size → b ≠ w5.heap.size → G) : G := by
  have hs := h.size
  exact k (fun i => h.cell hb id) (fun i => h.frozen hb id) (by omega) (by omega)
theorem lt_al (w : World) (o : Obj) : w.heap.size < (w.alloc o).heap.size := by simp
theorem lt_al1 {w : World} {b : Nat} (h : b < w.heap.size) (o : Obj) : b < (w.alloc o).heap.size := by simp; omega
theorem lt_al2 (w : World) (o o' : Obj) : w.heap.size + 1 < ((w.alloc o).alloc o').heap.size := by simp
/-- Both objects. -/
structure TwoG (w : World) (B p p2 : Nat) (L M : List Fl) (v u v2 u2 : Value) : Prop where
  h1 : RepH w B p 9 v u L [] 0
  h2 : RepH w B p2 9 v2 u2 M [] 0
  ne : p ≠ p2
  ap : ∀ x, v.ownBlock = some x → v2.ownBlock ≠ some x
def Two2 (w : World) (B p p2 : Nat) (L M : List Fl) : Prop := ∃ v u v2 u2, TwoG w B p p2 L M v u v2 u2
theorem Two2.keep0 {w w' : World} {B p p2 : Nat} {L M : List Fl} (h : Two2 w B p p2 L M) (k : Keep (fun _ => False) w w') : Two2 w' B p p2 L M := by
  obtain ⟨v, u, v2, u2, h⟩ := h
  exact ⟨v, u, v2, u2, h.h1.keep0 k, h.h2.keep0 k, h.ne, h.ap⟩
theorem Two2.symm {w : World} {B p p2 : Nat} {L M : List Fl} (h : Two2 w B p p2 L M) : Two2 w B p2 p M L := by
  obtain ⟨v, u, v2, u2, h⟩ := h
  exact ⟨v2, u2, v, u, h.h2, h.h1, h.ne.symm, fun x hx e => h.ap x e hx⟩
theorem Two2.hp {w : World} {B p p2 : Nat} {L M : List Fl} (h : Two2 w B p p2 L M) : ∃ c, w.heap[p]? = some (.cells c 59 (0, 0)) := by
  obtain ⟨v, u, v2, u2, h⟩ := h
  exact ⟨_, h.h1.hp⟩
theorem RepH.past {w w' : World} {B p p2 : Nat} {m : Int} {v u : Value} {L : List Fl} {Q : List Bk} {r : Int} (h : RepH w B p m v u L Q r) (h2 : ∃ c, w.heap[p2]? = some (.cells c 59 (0, 0))) (hne : p ≠ p2) (k : Keep (fun z => z = p2) w w') : RepH w' B p m v u L Q r := by
  obtain ⟨c, h2⟩ := h2
  refine h.keep k hne (fun x hx e => ?_) (fun x hx e => ?_)
  · obtain ⟨c1, h1⟩ := own_typ h.hv hx
    exact typ_ne h1 h2 (by decide) e
  · obtain ⟨c1, h1⟩ := own_typ h.hu hx
    exact typ_ne h1 h2 (by decide) e
theorem pages_two {w : World} {B p p2 : Nat} {L M : List Fl} (s y n : Int) (h : Two2 w B p p2 L M) (hG : GoodL L) (hl : L.length ≤ 100) (hB : B ≤ w.heap.size) :
    Calls Try.prog 17 #[.pointer (some ⟨p, 0, none⟩), .int .i64 s, .int .i64 y, .int .i64 n] w fun e w' => e = .returned (.int .i64 (pgE ⟨s, y, n⟩)) ∧ Two2 w' B p p2 (pgG L ⟨s, y, n⟩) M ∧ Keep (fun z => z = p) w w' := by
  obtain ⟨v, u, v2, u2, h⟩ := h
  unfold pgE pgG
  by_cases hf : fine ⟨s, y, n⟩
  · rw [if_pos hf, if_pos hf]
    refine (pages_any B p 9 v u L [] 0 s y n hf hG.fi hl w hB h.h1).mono ?_
    rintro e w' ⟨rfl, v', h1, h2, h3⟩
    refine ⟨rfl, ⟨v', u, v2, u2, h1, h.h2.past ⟨_, h.h1.hp⟩ h.ne.symm h2, h.ne, fun x hx e => ?_⟩, h2⟩
    obtain ⟨c, hc⟩ := own_typ h.h2.hv e
    have := h3 x hx
    have := block_lt hc
    omega
  · rw [if_neg hf, if_neg hf]
    refine (pages_err p s y n hf w).mono ?_
    rintro e w' ⟨rfl, h1⟩
    exact ⟨rfl, ⟨v, u, v2, u2, h.h1.keep0 h1, h.h2.keep0 h1, h.ne, h.ap⟩, h1.mono fun _ _ h => h.elim⟩

/-- What Take answers. -/
def ToldL (w : World) (B : Nat) (v : Value) (L : List Fl) : Prop := ∃ D, D.Perm L ∧ D.Pairwise leF ∧ OwnL flE w B 40 v D
theorem take_any {w : World} {B p : Nat} {v u : Value} {L : List Fl} (h : RepH w B p 9 v u L [] 0) (hG : GoodL L) :
    Calls Try.prog 10 #[.pointer (some ⟨p, 0, none⟩)] w fun e w' => ∃ v' u', e = .returned (.tuple #[v', u']) ∧ (v' = v ∨ v'.ownBlock = none) ∧ ToldL w' B v' L ∧ Keep (fun z => z = p ∨ v.ownBlock = some z) w w' := by
  by_cases h0 : L.length = 0
  · obtain rfl : L = [] := List.eq_nil_of_length_eq_zero h0
    refine (take_empty B p 9 v u 0 w h).mono ?_
    rintro e w' ⟨rfl, hk⟩
    exact ⟨_, _, rfl, .inr rfl, ⟨[], List.Perm.refl _, List.Pairwise.nil, OwnL.nil _ _ _⟩, hk.mono fun _ _ h => h.elim⟩
  · refine (take_some B p 9 v u L [] 0 hG.fi (by simpa using h0) (by omega) w h).mono ?_
    rintro e w' ⟨D, r', rfl, h1, h2, h3, _, _, _, hk⟩
    exact ⟨_, _, rfl, .inl rfl, ⟨D, h1, h2, h3⟩, hk⟩

/-- Behind the first Take. -/
def One2 (w : World) (B p2 : Nat) (v : Value) (L M : List Fl) : Prop := ∃ v2 u2, RepH w B p2 9 v2 u2 M [] 0 ∧ ToldL w B v L ∧ v.ownBlock ≠ some p2 ∧ ∀ x, v.ownBlock = some x → v2.ownBlock ≠ some x
theorem take_first {w : World} {B p p2 : Nat} {L M : List Fl} (h : Two2 w B p p2 L M) (hG : GoodL L) (h1 : B ≤ p) :
    Calls Try.prog 10 #[.pointer (some ⟨p, 0, none⟩)] w fun e w' => ∃ v' u', e = .returned (.tuple #[v', u']) ∧ One2 w' B p2 v' L M ∧ Keep (fun z => B ≤ z) w w' := by
  obtain ⟨v, u, v2, u2, h⟩ := h
  refine (take_any h.h1 hG).mono ?_
  rintro e w' ⟨v', u', rfl, hv, hT, hk⟩
  have hvp : v.ownBlock ≠ some p2 := fun e => by
    obtain ⟨c, hc⟩ := own_typ h.h1.hv e
    exact typ_ne hc h.h2.hp (by decide) rfl
  have hB : ∀ x, v.ownBlock = some x → B ≤ x := fun x hx => (h.h1.hv.lt x hx).1
  refine ⟨v', u', rfl, ⟨v2, u2, h.h2.keep hk (fun e => e.elim (fun e => h.ne e.symm) hvp) (fun x hx e => ?_) (fun x hx e => ?_), hT, ?_, ?_⟩, hk.mono fun z _ hz => hz.elim (fun e => e ▸ h1) (hB z)⟩
  · rcases e with rfl | e
    · obtain ⟨c, hc⟩ := own_typ h.h2.hv hx
      exact typ_ne hc h.h1.hp (by decide) rfl
    · exact h.ap x e hx
  · rcases e with rfl | e
    · obtain ⟨c, hc⟩ := own_typ h.h2.hu hx
      exact typ_ne hc h.h1.hp (by decide) rfl
    · obtain ⟨c, hc⟩ := own_typ h.h2.hu hx
      obtain ⟨c', hc'⟩ := own_typ h.h1.hv e
      exact typ_ne hc hc' (by decide) rfl
  · rcases hv with rfl | hv
    · exact hvp
    · rw [hv]; simp
  · rcases hv with rfl | hv
    · exact h.ap
    · intro x hx; rw [hv] at hx; cases hx
theorem take_second {w : World} {B p2 : Nat} {v : Value} {L M : List Fl} (h : One2 w B p2 v L M) (hG : GoodL M) (h1 : B ≤ p2) :
    Calls Try.prog 10 #[.pointer (some ⟨p2, 0, none⟩)] w fun e w' => ∃ v' u', e = .returned (.tuple #[v', u']) ∧ ToldL w' B v L ∧ ToldL w' B v' M ∧ Keep (fun z => B ≤ z) w w' := by
  obtain ⟨v2, u2, h2, ⟨D, hd1, hd2, hd3⟩, hvp, hap⟩ := h
  refine (take_any h2 hG).mono ?_
  rintro e w' ⟨v', u', rfl, _, hT, hk⟩
  have hB : ∀ x, v2.ownBlock = some x → B ≤ x := fun x hx => (h2.hv.lt x hx).1
  refine ⟨v', u', rfl, ⟨D, hd1, hd2, hd3.keep hk fun x hx e => ?_⟩, hT, hk.mono fun z _ hz => hz.elim (fun e => e ▸ h1) (hB z)⟩
  rcases e with rfl | e
  · exact hvp hx
  · exact hap x hx e

def OrJ (w wr : World) (p p2 : Nat) (A : List Ac) (n fr i : Nat) : Prop := ∃ Lg Lh, Two2 wr w.heap.size p p2 Lg Lh ∧ GoodL Lg ∧ GoodL Lh ∧ Lg.length ≤ i ∧ Lh.length ≤ 2 * i ∧
  (∀ s q, cov Lg s q ↔ covA A (fun j => j) i s q) ∧ (∀ s q, cov Lh s q ↔ covA A (fun j => (n - 1 - j + fr) % n) i s q) ∧ Keep (fun _ => False) w wr
theorem orJ_succ {w w' : World} {p p2 : Nat} {A : List Ac} {n fr k j : Nat} {Lg Lh : List Fl} {x y : Ac} (hk : k < A.length) (hj : j < A.length) (hjj : (n - 1 - k + fr) % n = j) (hx : A[k] = x) (hy : A[j] = y)
    (hgG : GoodL Lg) (hgH : GoodL Lh) (hlg : Lg.length ≤ k) (hlh : Lh.length ≤ 2 * k) (hcg : ∀ s q, cov Lg s q ↔ covA A (fun j => j) k s q) (hch : ∀ s q, cov Lh s q ↔ covA A (fun j => (n - 1 - j + fr) % n) k s q)
    (hT : Two2 w' w.heap.size p p2 (pgG Lg (acF x)) (pgG (pgG Lh (acF y)) (acF y))) (hK : Keep (fun _ => False) w w') : OrJ w w' p p2 A n fr (k + 1) := by
  obtain ⟨g1, g2, g3⟩ := pgG_good (acF x) hgG
  obtain ⟨e1, e2, e3⟩ := pgG_good (acF y) hgH
  obtain ⟨f1, f2, f3⟩ := pgG_good (acF y) e1
  refine ⟨_, _, hT, g1, f1, by omega, by omega, fun s q => ?_, fun s q => ?_, hK⟩
  · rw [g3, hcg, covA_succ A _ k hk, hx]
  · rw [f3, e3, hch, covA_succ A _ k (by simp only [hjj]; exact hj)]
    simp only [hjj, hy]
    rw [or_assoc, or_self]
theorem told_same {w : World} {B : Nat} {A : List Ac} {n fr : Nat} {v v' : Value} {Lg Lh : List Fl} (hn : n ≤ A.length) (hgG : GoodL Lg) (hgH : GoodL Lh) (hcg : ∀ s q, cov Lg s q ↔ covA A (fun j => j) n s q) (hch : ∀ s q, cov Lh s q ↔ covA A (fun j => (n - 1 - j + fr) % n) n s q)
    (h1 : ToldL w B v Lg) (h2 : ToldL w B v' Lh) : ∃ D, OwnL flE w B 40 v D ∧ OwnL flE w B 40 v' D ∧ D.length = Lg.length := by
  obtain ⟨D, d1, d2, d3⟩ := h1
  obtain ⟨E, e1, e2, e3⟩ := h2
  obtain rfl : D = E := told_uniq hgG hgH d1 d2 e1 e2 fun s q => by rw [hcg, hch, covA_turn A n fr hn]
  exact ⟨D, d3, e3, d1.length_eq⟩

theorem acts_two {w : World} {la : Option Addr} {A : List Ac} {k j : Nat} {x y : Ac} (h : ActsG w la A) (hk : k < A.length) (hj : j < A.length) (hx : A[k] = x) (hy : A[j] = y) : ∃ b o, la = some ⟨b, o, none⟩ ∧ C12 b o k j x y w := by
  obtain ⟨b, o, hla, c0, c1, c2, c3, c4, c5⟩ := h k hk
  obtain ⟨b', o', hbo, d0, d1, d2, d3, d4, d5⟩ := h j hj
  rw [hla] at hbo
  injection hbo with hbo
  injection hbo with hb ho
  subst hb ho
  rw [hx] at c0 c1 c2 c3 c4 c5
  rw [hy] at d0 d1 d2 d3 d4 d5
  exact ⟨b, o, hla, c0, c1, c2, c3, c4, c5, d0, d1, d2, d3, d4, d5⟩

set_option maxRecDepth 100000 in
set_option maxHeartbeats 4000000 in
theorem orders_walk (la : Option Addr) (l c : Nat) (fr : Nat) (hfr : fr < 256) (w : World) (hr : RowsAt w la l [.int .i64, .int .i64, .int .i64, .int .i64, .int .i64, .int .i64]) :
    Calls Try.prog 6 #[.slice la l c, .int .u8 fr] w fun e w' => e = .returned (.bool true) ∧ Below w.heap.size w w' := by
  obtain ⟨A, rfl, hA⟩ := actsG_of_rows hr
  have H1 := Lib.hid hA
  clear hA hr
  obtain ⟨n, hn⟩ : ∃ n : Nat, n = min A.length 25 := ⟨_, rfl⟩
  have hnl : n ≤ A.length := by omega
  have hn25 : n ≤ 25 := by omega
  have HNI : Hid (min (A.length : Int) 25 = (n : Int)) := by unfold Hid; omega
  clear hn
  go_enter Try.func6, Try.ntmps6
  go_wp2_with fail
  refine (new_any 9 (by omega) (by omega) w.heap.size _ (Nat.le_refl _)).mono ?_
  rintro e w1 ⟨p, rfl, hR, hp, hk⟩
  have HR1 := Lib.hid hR
  have HK1 := Lib.hid hk
  have HP1 := Lib.hid (block_lt hR.hp)
  clear hR hk
  go_wp2_with fail
  refine (new_any 9 (by omega) (by omega) w.heap.size _ HK1.out.size).mono ?_
  rintro e w2 ⟨p2, rfl, hR, hp2, hk⟩
  have hpp : p ≠ p2 := by have := HP1.out; omega
  have HPB : Hid (w.heap.size ≤ p ∧ w.heap.size ≤ p2) := ⟨hp, Nat.le_trans HK1.out.size hp2⟩
  have HT2 : Hid (Two2 w2 w.heap.size p p2 [] []) := ⟨_, _, _, _, HR1.out.keep0 hk, hR, hpp, fun x hx => by cases hx⟩
  have HK2 := Lib.hid (HK1.out.trans hk)
  clear hR hk HR1 HK1 HP1 hp hp2
  go_wp2_with fail
  refine (awake_any _).mono ?_
  rintro e w3 ⟨rfl, hk⟩
  have HI0 : Hid (OrJ w w3 p p2 A n fr 0) := ⟨[], [], HT2.out.keep0 hk, GoodL.nil, GoodL.nil, by simp, by simp, fun s q => ⟨fun ⟨x, hx, _⟩ => (by cases hx), fun ⟨j, hj, _⟩ => (by omega)⟩, fun s q => ⟨fun ⟨x, hx, _⟩ => (by cases hx), fun ⟨j, hj, _⟩ => (by omega)⟩, HK2.out.trans hk⟩
  clear HT2 hk HK2
  go_wp2
  rw [HNI.out]
  go_loopw [10] (fun i wr => ∃ k : Nat, k ≤ n ∧ i = .int .i64 k ∧ OrJ w wr p p2 A n fr k) (fun i _ => n - (intOf i).toNat)
  case atStart => exact ⟨0, by omega, rfl, HI0.out⟩
  case round =>
    obtain ⟨k, hk, rfl, Lg, Lh, hT, hgG, hgH, hlg, hlh, hcg, hch, hkeep⟩ := hrel
    have HT := Lib.hid hT
    have HGG := Lib.hid hgG
    have HGH := Lib.hid hgH
    have HCG := Lib.hid hcg
    have HCH := Lib.hid hch
    have HK := Lib.hid hkeep
    have HSZ := Lib.hid hkeep.size
    have HL : Hid (Lg.length ≤ 100 ∧ Lh.length ≤ 100 ∧ (pgG Lh ⟨0, 0, 0⟩).length ≤ 1000) := ⟨by omega, by omega, by have := (pgG_good ⟨0, 0, 0⟩ hgH).2.1; omega⟩
    have HLK : Hid (Lg.length ≤ k ∧ Lh.length ≤ 2 * k ∧ k ≤ 25) := ⟨hlg, hlh, by omega⟩
    clear hT hgG hgH hcg hch hkeep hlg hlh
    by_cases hlt : k < n
    · obtain ⟨j, hj⟩ : ∃ j, (n - 1 - k + fr) % n = j := ⟨_, rfl⟩
      have hjn : j < n := by rw [← hj]; exact Nat.mod_lt _ (by omega)
      have HJ := Lib.hid hj
      have hkA : k < A.length := by omega
      have hjA : j < A.length := by omega
      obtain ⟨n1, hn1⟩ : ∃ m : Nat, m = n - 1 := ⟨_, rfl⟩
      obtain ⟨n2, hn2⟩ : ∃ m : Nat, m = n1 - k := ⟨_, rfl⟩
      obtain ⟨n3, hn3⟩ : ∃ m : Nat, m = n2 + fr := ⟨_, rfl⟩
      have a1 : IntKind.i64.wrap ((n : Int) - 1) = (n1 : Int) := by rw [show (n : Int) - 1 = n1 by omega]; exact IntWalk.i64_in _ (by omega)
      have a2 : IntKind.i64.wrap ((n1 : Int) - (k : Int)) = (n2 : Int) := by rw [show (n1 : Int) - k = n2 by omega]; exact IntWalk.i64_in _ (by omega)
      have a3 : IntKind.i64.wrap ((n2 : Int) + (fr : Int)) = (n3 : Int) := by rw [show (n2 : Int) + fr = n3 by omega]; exact IntWalk.i64_in _ (by omega)
      have a4 : Int.tmod (n3 : Int) (n : Int) = (j : Int) := by
        rw [Int.tmod_eq_emod_of_nonneg (by omega), ← Int.natCast_emod]
        congr 1
        rw [hn3, hn2, hn1]; exact hj
      have a5 : IntKind.i64.wrap (fr : Int) = (fr : Int) := IntWalk.i64_in _ (by omega)
      have a6 : ((n : Int) == 0) = false := by rw [beq_eq_false_iff_ne]; omega
      have a7 : ¬ ((n : Int) = 0) := by omega
      have a8 : ¬ (n = 0) := by omega
      have a9 : IntKind.i64.wrap (j : Int) = (j : Int) := IntWalk.i64_in _ (by omega)
      have a9w : wrap64 (j : Int) = (j : Int) := IntWalk.wrap64_in _ (by omega)
      have a10 : n3 % n = j := by rw [hn3, hn2, hn1]; exact hj
      have a11 : (n3 : Int) % (n : Int) = (j : Int) := by rw [← Int.natCast_emod, a10]
      have hrem := rem_run n3 n j hjn a10 (by omega) (by omega)
      clear hj hn1 hn2 hn3 a10 a11
      obtain ⟨x, hx⟩ : ∃ x, A[k]'hkA = x := ⟨_, rfl⟩
      obtain ⟨y, hy⟩ : ∃ y, A[j]'hjA = y := ⟨_, rfl⟩
      have HX := Lib.hid hx
      have HY := Lib.hid hy
      obtain ⟨b, o, rfl, hc⟩ := acts_two (H1.out.keep HK.out) hkA hjA HX.out HY.out
      have HC := Lib.hid hc
      have HA := Lib.hid H1
      clear hx hy hc
      have k0 : (0 : Int) ≤ k := Int.natCast_nonneg k
      have k1 : (k : Int) < A.length := Int.ofNat_lt.mpr hkA
      have j0 : (0 : Int) ≤ j := Int.natCast_nonneg j
      have j1 : (j : Int) < A.length := Int.ofNat_lt.mpr hjA
      go_upto_region 9 with fail
      go_cut [11, 12] (fun s11 s12 wx => ∃ n11 n12 : Nat, s11 = .pointer (some ⟨n11, 0, none⟩) ∧ s12 = .pointer (some ⟨n12, 0, none⟩) ∧ L6 wx n11 x ∧ L6 wx n12 y ∧ wr.heap.size ≤ n11 ∧ wr.heap.size ≤ n12 ∧ Keep (fun _ => False) wr wx)
      case first =>
        go_region_held3 (fun w' => w'.cell? ⟨b, o + k * 6, none⟩ = some (.int .i64 x.k) ∧ w'.cell? ⟨b, o + k * 6 + 1, none⟩ = some (.int .i64 x.s) ∧ w'.cell? ⟨b, o + k * 6 + 1 + 1, none⟩ = some (.int .i64 x.p) ∧ w'.cell? ⟨b, o + k * 6 + 1 + 1 + 1, none⟩ = some (.int .i64 x.n) ∧ w'.cell? ⟨b, o + k * 6 + 1 + 1 + 1 + 1, none⟩ = some (.int .i64 x.f) ∧ w'.cell? ⟨b, o + k * 6 + 1 + 1 + 1 + 1 + 1, none⟩ = some (.int .i64 x.o) ∧ w'.cell? ⟨b, o + j * 6, none⟩ = some (.int .i64 y.k) ∧ w'.cell? ⟨b, o + j * 6 + 1, none⟩ = some (.int .i64 y.s) ∧ w'.cell? ⟨b, o + j * 6 + 1 + 1, none⟩ = some (.int .i64 y.p) ∧ w'.cell? ⟨b, o + j * 6 + 1 + 1 + 1, none⟩ = some (.int .i64 y.n) ∧ w'.cell? ⟨b, o + j * 6 + 1 + 1 + 1 + 1, none⟩ = some (.int .i64 y.f) ∧ w'.cell? ⟨b, o + j * 6 + 1 + 1 + 1 + 1 + 1, none⟩ = some (.int .i64 y.o))
          (first | with_reducible exact HC.out | (refine C12_keep HC.out ?_; (repeat (first | with_reducible exact HKy.out | with_reducible exact HKx.out | with_reducible exact Keep.refl _ _ | with_reducible refine Keep.drew ?_ | with_reducible refine Keep.drewN ?_ _ | with_reducible refine Keep.alloc ?_ _ | with_reducible refine Keep.setNew ?_ ?_ _ | with_reducible exact Nat.le_refl _ | with_reducible exact Nat.le_succ _ | with_reducible exact HKy.out.size | with_reducible exact HKx.out.size | with_reducible exact Nat.le_succ_of_le HKy.out.size | with_reducible exact Nat.le_succ_of_le HKx.out.size)); done))
          (first | (go_at_call_of 16 (Ac.k x); refine (light_ag x _).mono ?_; rintro e w4 ⟨rfl, hk4⟩; have HKx : Hid (Keep (fun _ => False) wr w4) := Keep.trans (by (repeat (first | with_reducible exact Keep.refl _ _ | with_reducible refine Keep.drew ?_ | with_reducible refine Keep.drewN ?_ _ | with_reducible refine Keep.alloc ?_ _)); done) hk4; (first | (apply facts_k (b := wr.heap.size) hk4; (first | exact lt_al _ _ | exact lt_al1 (lt_al _ _) _); intro r1 r2 r5 r6) | skip); (first | (apply facts_k (b := wr.heap.size + 1) hk4; exact lt_al2 _ _ _; intro v1 v2 v5 v6) | skip); clear hk4) | (go_at_call_of 16 (Ac.k y); refine (light_ag y _).mono ?_; rintro e w5 ⟨rfl, hk5⟩; have HKy : Hid (Keep (fun _ => False) wr w5) := Keep.trans (by (repeat (first | with_reducible exact HKx.out | with_reducible refine Keep.drew ?_ | with_reducible refine Keep.drewN ?_ _ | with_reducible refine Keep.alloc ?_ _)); done) hk5; (first | (apply facts_k (b := w4.heap.size) hk5; (first | exact lt_al _ _ | exact lt_al1 (lt_al _ _) _); intro t1 t2 t5 t6) | skip); (first | (apply facts_k (b := w4.heap.size + 1) hk5; exact lt_al2 _ _ _; intro u1 u2 u5 u6) | skip); (first | (apply facts_k (b := wr.heap.size) hk5; (first | assumption | (refine lt_al1 ?_ _; assumption)); intro s1 s2 s5 s6) | skip); (first | (apply facts_k (b := wr.heap.size + 1) hk5; assumption; intro y1 y2 y5 y6) | skip); clear hk5))
        all_goals (go_wp2_with fail)
        all_goals go_meet
        all_goals (refine ⟨_, _, rfl, rfl, ⟨?_, ?_, ?_⟩, ⟨?_, ?_, ?_⟩, ?_, ?_, ?_⟩)
        all_goals (first | ((repeat (first | with_reducible exact HKy.out | with_reducible refine Keep.drew ?_ | with_reducible refine Keep.drewN ?_ _ | with_reducible refine Keep.alloc ?_ _ | with_reducible refine Keep.setNew ?_ ?_ _ | with_reducible exact Nat.le_refl _ | with_reducible exact Nat.le_succ _ | with_reducible exact HKy.out.size | with_reducible exact HKx.out.size | with_reducible exact Nat.le_succ_of_le HKy.out.size | with_reducible exact Nat.le_succ_of_le HKx.out.size)); done) | (go_simp; done) | (simp [*]; done) | skip)
      case rest =>
        obtain ⟨n11, n12, rfl, rfl, hx, hy, hn11, hn12, hkc⟩ := hcut
        have HN2 := Lib.hid hn12
        have HPW : Hid (p < wr.heap.size ∧ p2 < wr.heap.size) := ⟨by obtain ⟨c, h⟩ := HT.out.hp; exact block_lt h, by obtain ⟨c, h⟩ := HT.out.symm.hp; exact block_lt h⟩
        clear hn11 hn12
        have HKC := Lib.hid (HK.out.trans hkc)
        have HTc := Lib.hid (HT.out.keep0 hkc)
        have HX6 := Lib.hid hx
        have HY6 := Lib.hid hy
        clear hkc hx hy a1 a2 a3 a4 a5 a6 a7 a8 a9 a9w hrem k0 k1 j0 j1
        obtain ⟨g1, g2, g3⟩ := HX6.out
        go_wp2_with fail
        refine (pages_two (acF x).s (acF x).p (acF x).n HTc.out HGG.out HL.out.1 HKC.out.size).mono ?_
        rintro e w4 ⟨rfl, hT4, hk4⟩
        have HT4 := Lib.hid hT4
        have HY4 := Lib.hid (L6_past HY6.out HPW.out.1 HN2.out hk4)
        have HK4 := Lib.hid (far HKC.out hk4 (fun z e => e ▸ HPB.out.1))
        clear hT4 hk4 g1 g2 g3
        obtain ⟨q1, q2, q3⟩ := HY4.out
        go_wp2_with fail
        refine (pages_two (acF y).s (acF y).p (acF y).n HT4.out.symm HGH.out HL.out.2.1 HK4.out.size).mono ?_
        rintro e w5 ⟨rfl, hT5, hk5⟩
        have HT5 := Lib.hid hT5
        have HY5 := Lib.hid (L6_past HY4.out HPW.out.2 HN2.out hk5)
        have HK5 := Lib.hid (far HK4.out hk5 (fun z e => e ▸ HPB.out.2))
        clear hT5 hk5 q1 q2 q3
        obtain ⟨q1, q2, q3⟩ := HY5.out
        have HG2 := Lib.hid (pgG_good (acF y) HGH.out)
        have HG2L : Hid ((pgG Lh (acF y)).length ≤ 100) := nat100 HG2.out.2.1 HLK.out.2.1 HLK.out.2.2
        go_wp2_with fail
        refine (pages_two (acF y).s (acF y).p (acF y).n HT5.out HG2.out.1 HG2L.out HK5.out.size).mono ?_
        rintro e w6 ⟨rfl, hT6, hk6⟩
        have HT6 := Lib.hid hT6
        have HK6 := Lib.hid (far HK5.out hk6 (fun z e => e ▸ HPB.out.2))
        clear hT6 hk6 q1 q2 q3
        have HN : Hid (OrJ w w6 p p2 A n fr (k + 1)) := orJ_succ hkA hjA HJ.out HX.out HY.out HGG.out HGH.out HLK.out.1 HLK.out.2.1 HCG.out HCH.out HT6.out.symm HK6.out
        go_wp2
        go_roundw
        case rel => exact ⟨k + 1, hlt, by go_num, HN.out⟩
        case measure => simp [intOf]; omega
    · obtain rfl : k = n := by omega
      go_wp2_with fail
      refine (take_first HT.out HGG.out HPB.out.1).mono ?_
      rintro e w4 ⟨v', u', rfl, hO, hk4⟩
      have HO := Lib.hid hO
      have HK4 := Lib.hid (far HK.out hk4 (fun z e => e))
      clear hO hk4
      go_wp2_with fail
      refine (take_second HO.out HGH.out HPB.out.2).mono ?_
      rintro e w5 ⟨v2', u2', rfl, hT1, hT2, hk5⟩
      have HK5 := Lib.hid (far HK4.out hk5 (fun z e => e))
      obtain ⟨D, hd1, hd2, hd3⟩ := told_same hnl HGG.out HGH.out HCG.out HCH.out hT1 hT2
      have HD1 := Lib.hid hd1
      have HD2 := Lib.hid hd2
      have HDL : Hid (D.length ≤ 1000000) := natD hd3 HLK.out.1 HLK.out.2.2
      clear hT1 hT2 hk5 hd1 hd2 hd3
      go_wp2_with fail
      refine (same_fl _ _ _ _ D _ HD1.out HD2.out HDL.out).mono ?_
      rintro e w6 ⟨rfl, hk6⟩
      have HK6 := Lib.hid (far HK5.out hk6 (fun z e => e.elim))
      clear hk6
      go_wp2
      go_ret
      exact ⟨rfl, HK6.out.below⟩

theorem wf8 {a : Int} (h : (Lit.int .u8 a).wf = true) : 0 ≤ a ∧ a ≤ 255 := by simpa [Lit.wf, IntKind.min, IntKind.max, IntKind.signed, IntKind.bits] using h
theorem orders_int (la : Option Addr) (l c : Nat) (a : Int) (h : (Lit.int .u8 a).wf = true) (w : World) (hr : RowsAt w la l [.int .i64, .int .i64, .int .i64, .int .i64, .int .i64, .int .i64]) :
    Calls Try.prog 6 #[.slice la l c, .int .u8 a] w fun e w' => e = .returned (.bool true) ∧ Below w.heap.size w w' := by
  obtain ⟨h0, h1⟩ := wf8 h
  obtain ⟨fr, rfl⟩ := Int.eq_ofNat_of_zero_le h0
  exact orders_walk la l c fr (by omega) w hr

end Go.Proofs.Ytibcfglfcoljgaa
