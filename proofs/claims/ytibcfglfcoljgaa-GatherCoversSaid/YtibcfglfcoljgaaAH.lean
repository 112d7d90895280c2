/- Gather: one call of both. -/
import Derived.Test.YtibcfglfcoljgaaAG
import Derived.Outline
set_option linter.unusedVariables false
set_option linter.unusedSimpArgs false
namespace Go.Proofs.Ytibcfglfcoljgaa
open Go.RowKit Go.Own

theorem acF_60 (a : Ac) (h : fine (acF a)) : (acF a).n ≤ 60 := by
  unfold fine acF lt at *
  simp only at *
  split
  · omega
  · rename_i h2
    rw [if_neg h2] at h
    omega
theorem KT.trans {B : Nat} {a b c : World} (h : KT B a b) (k : KT B b c) (hab : ∀ z, B ≤ z → ∀ c e, b.heap[z]? = some (.cells c e (0, 0)) → e ≠ 50 → z < a.heap.size → ∃ c e, a.heap[z]? = some (.cells c e (0, 0)) ∧ e ≠ 50) : KT B a c :=
  Keep.on h k fun z hz ⟨h1, cc, e, h2, h3⟩ => ⟨h1, hab z h1 cc e h2 h3 hz⟩
theorem farS {w W W' : World} (h : Keep (fun _ => False) w W) (k : KT w.heap.size W W') : Keep (fun _ => False) w W' := far h k.far (fun _ h => h)

section
variable {w W : World} {p q : Nat} {m : Int} {L : List Fl} {P : List Sp} {Q : List Bk} {r : Int} {i : Nat}

/-- The contract of the second call, behind the first. -/
def NxC (w : World) (f : Nat) (args : Array Value) (e0 : Int) (G : World → Prop) (w4 : World) : Prop :=
  ∀ w4', Keep (fun _ => False) w4 w4' → Calls Try.prog f args w4' fun e w5 => e = .returned (.int .i64 e0) ∧ KT w.heap.size w4' w5 ∧ G w5

theorem pair_pages (o : Fl) (ho : fine o → o.n ≤ 60) (h : St w W p q m L P Q r i) (hi : i < 60) (hp : w.heap.size ≤ p) (hq : w.heap.size ≤ q) :
    Calls Try.prog 17 #[.pointer (some ⟨p, 0, none⟩), .int .i64 o.s, .int .i64 o.p, .int .i64 o.n] W fun e w4 => e = .returned (.int .i64 (pgE o)) ∧ KT w.heap.size W w4 ∧
      NxC w 26 #[.pointer (some ⟨q, 0, none⟩), .int .i64 o.s, .int .i64 o.p, .int .i64 o.n] (pgE o) (fun w5 => ∃ L' P' Q' r', St w w5 p q m L' P' Q' r' (i + 1)) w4 := by
  have h1 := h.ll
  have h2 := h.lp
  refine (do17 o.s o.p o.n h.two h.good (by omega) h.keep.size hp).mono ?_
  rintro e w4 ⟨rfl, ht, hk⟩
  refine ⟨rfl, hk, fun w4' k => ?_⟩
  have hsz := (farS h.keep hk).trans k
  refine (do26 o.s o.p o.n (ht.keep0 k) h.nd (fun hf => by have := ho hf; omega) hsz.size hq).mono ?_
  rintro e w5 ⟨rfl, ⟨P', g1, g2, g3, g4, g5⟩, hk5⟩
  obtain ⟨e1, e2, e3⟩ := pgG_good o h.good
  refine ⟨rfl, hk5, pgG L o, P', Q, r, g1, e1, g2, fun s y => ?_, h.ok, by omega, ?_, by have := h.lq; omega, by have := h.lr; omega, farS hsz hk5⟩
  · rw [g3, h.cv, e3]
  · by_cases hf : fine o
    · have := g4 hf; have := ho hf; have := hf.2.2.1; omega
    · rw [g5 hf]; omega

theorem pair_frames (b : Bk) (h : St w W p q m L P Q r i) (hi : i < 60) (hp : w.heap.size ≤ p) (hq : w.heap.size ≤ q) :
    Calls Try.prog 18 #[.pointer (some ⟨p, 0, none⟩), .agg #[.int .i64 b.f, .int .i64 b.o]] W fun e w4 => e = .returned (.int .i64 (frE Q b)) ∧ KT w.heap.size W w4 ∧
      NxC w 27 #[.pointer (some ⟨q, 0, none⟩), .agg #[.int .i64 b.f, .int .i64 b.o]] (frE Q b) (fun w5 => ∃ L' P' Q' r', St w w5 p q m L' P' Q' r' (i + 1)) w4 := by
  have h1 := h.lq
  refine (do18 b h.two h.ok (by omega) h.keep.size hp).mono ?_
  rintro e w4 ⟨rfl, ht, hk⟩
  refine ⟨rfl, hk, fun w4' k => ?_⟩
  have hsz := (farS h.keep hk).trans k
  refine (do27 b (ht.keep0 k) h.ok (by omega) hsz.size hq).mono ?_
  rintro e w5 ⟨rfl, g1, hk5⟩
  have := frQ_len Q b
  exact ⟨rfl, hk5, L, P, frQ Q b, r, g1, h.good, h.nd, h.cv, frQ_ok h.ok, by have := h.ll; omega, by have := h.lp; omega, by omega, by have := h.lr; omega, farS hsz hk5⟩

theorem nil_iff {L : List Fl} {P : List Sp} (hG : GoodL L) (hc : ∀ s y, (⟨s, y⟩ : Sp) ∈ P ↔ cov L s y) : L.length = 0 ↔ P.length = 0 := by
  constructor
  · intro h
    have hL := List.eq_nil_of_length_eq_zero h
    cases P with
    | nil => rfl
    | cons y P =>
      obtain ⟨x, hx, _⟩ := (hc y.s y.p).mp (List.mem_cons_self ..)
      rw [hL] at hx; cases hx
  · intro h
    have hP := List.eq_nil_of_length_eq_zero h
    cases L with
    | nil => rfl
    | cons x L =>
      have hf := hG.fi x (List.mem_cons_self ..)
      have h2 := (hc x.s x.p).mpr ⟨x, List.mem_cons_self .., rfl, Int.le_refl _, by unfold fine at hf; omega⟩
      rw [hP] at h2; cases h2
theorem told_eq {L D E : List Fl} {P : List Sp} (hG : GoodL L) (hc : ∀ s y, (⟨s, y⟩ : Sp) ∈ P ↔ cov L s y) (h1 : D.Perm L) (h2 : D.Pairwise leF) (hT : TkI P [] E) : D = E := by
  refine can_uniq D E (can_of hG h1 h2) hT.can fun s y => ?_
  have h3 : cov D s y ↔ cov L s y := ⟨fun ⟨x, hx, h⟩ => ⟨x, h1.mem_iff.mp hx, h⟩, fun ⟨x, hx, h⟩ => ⟨x, h1.mem_iff.mpr hx, h⟩⟩
  rw [h3, ← hc, hT.cv]
  simp

/-- Behind both Takes: the same is told. -/
def TkC (w w5 : World) (p q : Nat) (m : Int) (L : List Fl) (P : List Sp) (Q : List Bk) (r : Int) (i : Nat) (v u vo c : Value) : Prop :=
  ∃ D, D.length ≤ 100 ∧ OwnL flE w5 w.heap.size 40 v D ∧ OwnL flE w5 w.heap.size 40 vo D ∧ OwnL bkE w5 w.heap.size 48 u Q ∧ OwnL bkE w5 w.heap.size 48 c Q ∧ St w w5 p q m [] [] [] (takR L.length Q.length r) (i + 1)
theorem TkC.keep0 {w5 w6 : World} {v u vo c : Value} (h : TkC w w5 p q m L P Q r i v u vo c) (k : Keep (fun _ => False) w5 w6) : TkC w w6 p q m L P Q r i v u vo c := by
  obtain ⟨D, h0, h1, h2, h3, h4, h5⟩ := h
  exact ⟨D, h0, h1.keep k (fun _ _ => id), h2.keep k (fun _ _ => id), h3.keep k (fun _ _ => id), h4.keep k (fun _ _ => id), h5.on k⟩
def NxT (w : World) (p q : Nat) (m : Int) (L : List Fl) (P : List Sp) (Q : List Bk) (r : Int) (i : Nat) (v u : Value) (w4 : World) : Prop :=
  ∀ w4', Keep (fun _ => False) w4 w4' → Calls Try.prog 11 #[.pointer (some ⟨q, 0, none⟩)] w4' fun e w5 => ∃ vo c, e = .returned (.tuple #[vo, c]) ∧ KT w.heap.size w4' w5 ∧ TkC w w5 p q m L P Q r i v u vo c
theorem pair_take (h : St w W p q m L P Q r i) (hi : i < 60) (hp : w.heap.size ≤ p) (hq : w.heap.size ≤ q) :
    Calls Try.prog 10 #[.pointer (some ⟨p, 0, none⟩)] W fun e w4 => ∃ v u, e = .returned (.tuple #[v, u]) ∧ KT w.heap.size W w4 ∧ NxT w p q m L P Q r i v u w4 := by
  have hlr := h.lr
  refine (do10 h.two h.good (by omega) hp).mono ?_
  rintro e w4 ⟨v, u, D, rfl, d1, d2, d3, d4, ht, hk⟩
  refine ⟨v, u, rfl, hk, fun w4' k => ?_⟩
  have hsz := (farS h.keep hk).trans k
  refine (do11 (ht.keep0 k) h.nd h.ran (by omega) hsz.size hq).mono ?_
  rintro e w5 ⟨vo, c, E, rfl, g1, g2, g3, g4, g5, g6⟩
  obtain rfl := told_eq h.good h.cv d1 d2 g1
  have hq37 : ∃ c, w4'.heap[q]? = some (.cells c 37 (0, 0)) := by
    obtain ⟨_, _, _, _, _, hX, _⟩ := ht.keep0 k
    exact ⟨_, hX.hp⟩
  obtain ⟨cq, hcq⟩ := hq37
  have hll := d1.length_eq
  have h1 := h.ll
  have er : takR P.length Q.length r = takR L.length Q.length r := by
    have := nil_iff h.good h.cv
    unfold takR
    by_cases e : L.length + Q.length = 0
    · rw [if_pos e, if_pos (by omega)]
    · rw [if_neg e, if_neg (by omega)]
  rw [er] at g4
  have hno : ∀ {e : TypeId} {α : Type} {E : Enc α} {z : Value} {X : List α}, OwnL E w4' w.heap.size e z X → e ≠ 37 → ∀ x, z.ownBlock = some x → x ≠ q := fun hz he x hx => by
    obtain ⟨c', hc'⟩ := own_typ hz hx
    exact typ_ne hc' hcq he
  have d3' := d3.keep k (fun _ _ => id)
  have d4' := d4.keep k (fun _ _ => id)
  refine ⟨vo, c, rfl, g6, D, by omega, d3'.keep g5 (hno d3' (by decide)), g2, d4'.keep g5 (hno d4' (by decide)), g3, g4, GoodL.nil, List.nodup_nil, fun s y => ?_, by simp, by simp, by simp, by simp, ?_, farS hsz g6⟩
  · unfold cov; simp
  · unfold takR; split <;> omega
end

theorem bx6 {w W : World} {n : Nat} {x0 x1 x2 x3 x4 x5 : Value} (h : w.heap[n]? = some (.cells #[x0, x1, x2, x3, x4, x5] 50 (0, 0))) (k : Keep (fun _ => False) w W) : W.heap[n]? = some (.cells #[x0, x1, x2, x3, x4, x5] 50 (0, 0)) := (k.block n (block_lt h) id).trans h
theorem bxP {W : World} {n : Nat} {x0 x1 x2 x3 x4 x5 : Value} (h : W.heap[n]? = some (.cells #[x0, x1, x2, x3, x4, x5] 50 (0, 0))) : W.cell? ⟨n, 1, none⟩ = some x1 ∧ W.cell? ⟨n, 2, none⟩ = some x2 ∧ W.cell? ⟨n, 3, none⟩ = some x3 := by simp [cell_block h]
theorem bxF {W : World} {n : Nat} {x0 x1 x2 x3 x4 x5 : Value} (h : W.heap[n]? = some (.cells #[x0, x1, x2, x3, x4, x5] 50 (0, 0))) : W.cell? ⟨n, 4, none⟩ = some x4 ∧ W.cell? ⟨n, 5, none⟩ = some x5 := by simp [cell_block h]

set_option maxRecDepth 100000 in
set_option maxHeartbeats 4000000 in
theorem do_any {w W : World} {p q : Nat} {m : Int} {L : List Fl} {P : List Sp} {Q : List Bk} {r : Int} {i : Nat} (a : Ac) (h : St w W p q m L P Q r i) (hi : i < 60) (hp : w.heap.size ≤ p) (hq : w.heap.size ≤ q) :
    Calls Try.prog 21 #[.pointer (some ⟨p, 0, none⟩), .pointer (some ⟨q, 0, none⟩), .agg #[.int .i64 a.k, .int .i64 (acF a).s, .int .i64 (acF a).p, .int .i64 (acF a).n, .int .i64 a.f, .int .i64 a.o]] W fun e w' => e = .returned (.bool true) ∧ ∃ L' P' Q' r', St w w' p q m L' P' Q' r' (i + 1) := by
  have h60 := acF_60 a
  obtain ⟨k, s, y, n, f, o⟩ := a
  obtain ⟨fl, hfl⟩ : ∃ z, acF ⟨k, s, y, n, f, o⟩ = z := ⟨_, rfl⟩
  rw [hfl] at h60 ⊢
  simp only
  have H60 := Lib.hid h60
  clear hfl h60
  have HB0 := Lib.hid (heap_alloc_new W (.cells #[.int .i64 k, .int .i64 fl.s, .int .i64 fl.p, .int .i64 fl.n, .int .i64 f, .int .i64 o] 50))
  have KW : Hid (Keep (fun _ => False) W (W.alloc (.cells #[.int .i64 k, .int .i64 fl.s, .int .i64 fl.p, .int .i64 fl.n, .int .i64 f, .int .i64 o] 50))) := (Keep.refl _ _).alloc _
  have HS := Lib.hid (h.on KW.out)
  clear h
  have c0 : (W.alloc (.cells #[.int .i64 k, .int .i64 fl.s, .int .i64 fl.p, .int .i64 fl.n, .int .i64 f, .int .i64 o] 50)).cell? ⟨W.heap.size, 0, none⟩ = some (.int .i64 k) := (cells6 HB0.out).1
  by_cases hp3 : k = 0 ∨ k = 1 ∨ k = 2
  · have HC := Lib.hid (fun W' (K : Keep (fun _ => False) _ W') => pair_pages fl H60.out (HS.out.on K) hi hp hq)
    rcases hp3 with rfl | rfl | rfl
    all_goals
      go_enter Try.func21, Try.ntmps21
      go_wp2
      clear c0
      go_region_held3 (fun w' => w'.cell? ⟨W.heap.size, 1, none⟩ = some (.int .i64 fl.s) ∧ w'.cell? ⟨W.heap.size, 2, none⟩ = some (.int .i64 fl.p) ∧ w'.cell? ⟨W.heap.size, 3, none⟩ = some (.int .i64 fl.n))
        (first | (with_reducible exact bxP HB5.out) | (with_reducible exact bxP HB4.out) | exact bxP (bx6 HB0.out (by (repeat (first | exact Keep.refl _ _ | exact Keep.refl _ _ | refine Keep.drew ?_ | refine Keep.drewN ?_ _ | refine Keep.alloc ?_ _ | refine Keep.setNew ?_ (by omega) _)); done)))
        (first | (go_at_call 17; refine (HC.out _ (by (repeat (first | exact Keep.refl _ _ | exact Keep.refl _ _ | refine Keep.drew ?_ | refine Keep.drewN ?_ _ | refine Keep.alloc ?_ _ | refine Keep.setNew ?_ (by omega) _)); done)).mono ?_; rintro e w4 ⟨rfl, hk4, hx4⟩; have HB4 := Lib.hid (hk4.box (bx6 HB0.out (by (repeat (first | exact Keep.refl _ _ | exact Keep.refl _ _ | refine Keep.drew ?_ | refine Keep.drewN ?_ _ | refine Keep.alloc ?_ _ | refine Keep.setNew ?_ (by omega) _)); done))); have HX4 := Lib.hid hx4; clear hk4 hx4) | (go_at_call 26; refine (HX4.out _ (by (repeat (first | exact Keep.refl _ _ | exact Keep.refl _ _ | refine Keep.drew ?_ | refine Keep.drewN ?_ _ | refine Keep.alloc ?_ _ | refine Keep.setNew ?_ (by omega) _)); done)).mono ?_; rintro e w5 ⟨rfl, hk5, ht5⟩; have HB5 := Lib.hid (hk5.box (bx6 HB4.out (by (repeat (first | exact Keep.refl _ _ | exact Keep.refl _ _ | refine Keep.drew ?_ | refine Keep.drewN ?_ _ | refine Keep.alloc ?_ _ | refine Keep.setNew ?_ (by omega) _)); done))); have HT5 := Lib.hid ht5; clear hk5 ht5))
      go_wp2
      go_ret
      exact ⟨rfl, HT5.out⟩
  by_cases hp4 : k = 3 ∨ k = 4
  · have HC := Lib.hid (fun W' (K : Keep (fun _ => False) _ W') => pair_frames ⟨f, o⟩ (HS.out.on K) hi hp hq)
    clear hp3
    rcases hp4 with rfl | rfl
    all_goals
      go_enter Try.func21, Try.ntmps21
      go_wp2
      clear c0
      go_region_held3 (fun w' => w'.cell? ⟨W.heap.size, 4, none⟩ = some (.int .i64 f) ∧ w'.cell? ⟨W.heap.size, 5, none⟩ = some (.int .i64 o))
        (first | (with_reducible exact bxF HB5.out) | (with_reducible exact bxF HB4.out) | exact bxF (bx6 HB0.out (by (repeat (first | exact Keep.refl _ _ | exact Keep.refl _ _ | refine Keep.drew ?_ | refine Keep.drewN ?_ _ | refine Keep.alloc ?_ _ | refine Keep.setNew ?_ (by omega) _)); done)))
        (first | (go_at_call 18; refine (HC.out _ (by (repeat (first | exact Keep.refl _ _ | exact Keep.refl _ _ | refine Keep.drew ?_ | refine Keep.drewN ?_ _ | refine Keep.alloc ?_ _ | refine Keep.setNew ?_ (by omega) _)); done)).mono ?_; rintro e w4 ⟨rfl, hk4, hx4⟩; have HB4 := Lib.hid (hk4.box (bx6 HB0.out (by (repeat (first | exact Keep.refl _ _ | exact Keep.refl _ _ | refine Keep.drew ?_ | refine Keep.drewN ?_ _ | refine Keep.alloc ?_ _ | refine Keep.setNew ?_ (by omega) _)); done))); have HX4 := Lib.hid hx4; clear hk4 hx4) | (go_at_call 27; refine (HX4.out _ (by (repeat (first | exact Keep.refl _ _ | exact Keep.refl _ _ | refine Keep.drew ?_ | refine Keep.drewN ?_ _ | refine Keep.alloc ?_ _ | refine Keep.setNew ?_ (by omega) _)); done)).mono ?_; rintro e w5 ⟨rfl, hk5, ht5⟩; have HB5 := Lib.hid (hk5.box (bx6 HB4.out (by (repeat (first | exact Keep.refl _ _ | exact Keep.refl _ _ | refine Keep.drew ?_ | refine Keep.drewN ?_ _ | refine Keep.alloc ?_ _ | refine Keep.setNew ?_ (by omega) _)); done))); have HT5 := Lib.hid ht5; clear hk5 ht5))
      go_wp2
      go_ret
      exact ⟨rfl, HT5.out⟩
  · have q0 : (k == 0) = false := by simp; omega
    have q1 : (k == 1) = false := by simp; omega
    have q2 : (k == 2) = false := by simp; omega
    have q3 : (k == 3) = false := by simp; omega
    have q4 : (k == 4) = false := by simp; omega
    clear hp3 hp4
    have HC := Lib.hid (fun W' (K : Keep (fun _ => False) _ W') => pair_take (HS.out.on K) hi hp hq)
    have HQ : Hid (Q.length ≤ 100) := by unfold Hid; have := HS.out.lq; omega
    go_enter Try.func21, Try.ntmps21
    go_wp2_with (first | (go_at_call 10; refine (HC.out _ (by (repeat (first | exact Keep.refl _ _ | exact Keep.refl _ _ | refine Keep.drew ?_ | refine Keep.drewN ?_ _ | refine Keep.alloc ?_ _ | refine Keep.setNew ?_ (by omega) _)); done)).mono ?_; rintro e w4 ⟨v4, u4, rfl, hk4, hx4⟩; have HX4 := Lib.hid hx4; clear hk4 hx4) | (go_at_call 11; refine (HX4.out _ (by (repeat (first | exact Keep.refl _ _ | exact Keep.refl _ _ | refine Keep.drew ?_ | refine Keep.drewN ?_ _ | refine Keep.alloc ?_ _ | refine Keep.setNew ?_ (by omega) _)); done)).mono ?_; rintro e w5 ⟨v5, u5, rfl, hk5, ht5⟩; have HT5 := Lib.hid ht5; clear hk5 ht5) | (go_at_call 12; obtain ⟨D, hD0, hD1, hD2, hD3, hD4, hD5⟩ := HT5.out; refine (same_fl _ _ _ _ D _ hD1 hD2 (by omega)).mono ?_; rintro e w6 ⟨rfl, hk6⟩; have HT6 := Lib.hid (HT5.out.keep0 hk6); clear hk6 hD0 hD1 hD2 hD3 hD4 hD5) | (go_at_call 13; obtain ⟨D, hD0, hD1, hD2, hD3, hD4, hD5⟩ := HT6.out; refine (same_bk _ _ _ _ Q _ hD3 hD4 (by have := HQ.out; omega)).mono ?_; rintro e w7 ⟨rfl, hk7⟩; have HT7 := Lib.hid (hD5.on hk7); clear hk7 hD0 hD1 hD2 hD3 hD4 hD5))
    go_ret
    exact ⟨rfl, _, _, _, _, HT7.out⟩

end Go.Proofs.Ytibcfglfcoljgaa
