/- Memory: the calls as they came in; made. -/
import Derived.Test.YtjffdimlbppgcaaGreatMN
import Derived.Test.YtjffdimlbppgcaaGreatArgs
import Derived.ProofKit
set_option linter.unusedVariables false
set_option linter.unusedSimpArgs false
namespace Go.Proofs.YtjffdimlbppgcaaGreat
open Go.RowKit Go.Own

structure A6 where
  k : Int
  f : Int
  o : Int
  y : Int
  s : Int
  n : Int
/-- The i-th call, at its place. -/
def ActAt (w : World) (b o i : Nat) (x : A6) : Prop := w.cell? ⟨b, o + i * 6, none⟩ = some (.int .i64 x.k) ∧ w.cell? ⟨b, o + i * 6 + 1, none⟩ = some (.int .i64 x.f) ∧ w.cell? ⟨b, o + i * 6 + 1 + 1, none⟩ = some (.int .i64 x.o) ∧
    w.cell? ⟨b, o + i * 6 + 1 + 1 + 1, none⟩ = some (.int .i64 x.y) ∧ w.cell? ⟨b, o + i * 6 + 1 + 1 + 1 + 1, none⟩ = some (.int .i64 x.s) ∧ w.cell? ⟨b, o + i * 6 + 1 + 1 + 1 + 1 + 1, none⟩ = some (.int .i64 x.n) ∧ i64B x.f
def Acts6 (w : World) (la : Option Addr) (A : List A6) : Prop := ∀ i (h : i < A.length), ∃ b o, la = some ⟨b, o, none⟩ ∧ ActAt w b o i A[i]
theorem acts6_of_rows {w : World} {la : Option Addr} {l : Nat} (h : RowsAt w la l [.int .i64, .int .i64, .int .i64, .int .i64, .int .i64, .int .i64]) : ∃ A : List A6, A.length = l ∧ Acts6 w la A := by
  have h2 : ∀ i, i < l → ∃ x : A6, ∃ b o, la = some ⟨b, o, none⟩ ∧ ActAt w b o i x := by
    intro i hi
    obtain ⟨b, o, cs, ha, hf, hc⟩ := h i hi
    have hl := hf.length
    obtain ⟨c0, c1, c2, c3, c4, c5, rfl⟩ : ∃ c0 c1 c2 c3 c4 c5, cs = [c0, c1, c2, c3, c4, c5] := by
      rcases cs with _ | ⟨c0, _ | ⟨c1, _ | ⟨c2, _ | ⟨c3, _ | ⟨c4, _ | ⟨c5, _ | ⟨c6, cs⟩⟩⟩⟩⟩⟩⟩ <;> simp at hl
      exact ⟨c0, c1, c2, c3, c4, c5, rfl⟩
    obtain ⟨⟨x0, rfl, _⟩, ⟨x1, rfl, w1⟩, ⟨x2, rfl, _⟩, ⟨x3, rfl, _⟩, ⟨x4, rfl, _⟩, ⟨x5, rfl, _⟩, _⟩ := hf
    have h0 := hc 0 (by decide)
    have h1 := hc 1 (by decide)
    have h2 := hc 2 (by decide)
    have h3 := hc 3 (by decide)
    have h4 := hc 4 (by decide)
    have h5 := hc 5 (by decide)
    simp only [List.length_cons, List.length_nil, Nat.reduceAdd, Nat.add_zero, ← Nat.add_assoc, List.getElem?_cons_zero, List.getElem?_cons_succ] at h0 h1 h2 h3 h4 h5
    exact ⟨⟨x0, x1, x2, x3, x4, x5⟩, b, o, ha, h0, h1, h2, h3, h4, h5, wf64 w1⟩
  haveI : Inhabited A6 := ⟨⟨0, 0, 0, 0, 0, 0⟩⟩
  obtain ⟨F, hF⟩ := Deep.choose_lt h2
  exact ⟨(List.range l).map F, by simp, fun i hi => by
    have := hF i (by simpa using hi)
    simpa using this⟩
/-- What may have changed lies beyond B. -/
def Up (B : Nat) (w w' : World) : Prop := Keep (fun z => B ≤ z) w w'
theorem Up.of {B : Nat} {w w' : World} (h : Keep (fun _ => False) w w') : Up B w w' := h.mono fun _ _ h => h.elim
theorem Up.below {w w' : World} (h : Up w.heap.size w w') : Below w.heap.size w w' := ⟨h.os, h.tape, h.output, h.size, fun k hk => h.block k hk (by omega)⟩
theorem up_base {w w0 wr : World} (K : Keep (fun _ => False) w w0) (h : Up w0.heap.size w0 wr) : Up w.heap.size w wr :=
  Keep.trans (Up.of K) (h.mono fun z _ hz => Nat.le_trans K.size hz)
theorem ActAt.up {w w' : World} {B b o i : Nat} {x : A6} (h : ActAt w b o i x) (k : Up B w w') (hb : b < B) : ActAt w' b o i x := by
  obtain ⟨h2, h3, h4, h5, h6, h7, h8⟩ := h
  have f : ∀ {j : Nat} {x : Value}, w.cell? ⟨b, j, none⟩ = some x → w'.cell? ⟨b, j, none⟩ = some x := fun h => (k.cell (block_lt_cell h) (by omega)).trans h
  exact ⟨f h2, f h3, f h4, f h5, f h6, f h7, h8⟩
theorem Acts6.up {w w' : World} {la : Option Addr} {A : List A6} (h : Acts6 w la A) (k : Up w.heap.size w w') : Acts6 w' la A := by
  intro i hi
  obtain ⟨b, o, h1, h2⟩ := h i hi
  exact ⟨b, o, h1, h2.up k (block_lt_cell h2.1)⟩
/-- The state behind some calls. -/
def LoopI (w0 wr : World) (A : Ad) : Prop := A.B = w0.heap.size ∧ (∃ P, BoE wr A P P) ∧ Up w0.heap.size w0 wr
theorem LoopI.do {w0 w : World} {A : Ad} (h : LoopI w0 w A) (K f o y s n : Int) (hf : i64B f) :
    Calls Tryz.prog 19 #[.pointer (some ⟨A.m, 0, none⟩), .pointer (some ⟨A.X, 0, none⟩), .agg #[.int .i64 K, .int .i64 f, .int .i64 o, .int .i64 y, .int .i64 s, .int .i64 n]] w fun e w' => e = .returned (.bool true) ∧ LoopI w0 w' A := by
  obtain ⟨hB, ⟨P, h1⟩, h2⟩ := h
  refine (do_any K f o y s n hf h1).mono ?_
  rintro e w' ⟨rfl, P1, h3, h4⟩
  exact ⟨rfl, hB, ⟨P1, h3⟩, Keep.trans h2 (hB ▸ km_up h4)⟩
theorem LoopI.keep0 {w0 w w' : World} {A : Ad} (h : LoopI w0 w A) (K : Keep (fun _ => False) w w') : LoopI w0 w' A := by
  obtain ⟨hB, ⟨P, h1⟩, h2⟩ := h
  exact ⟨hB, ⟨P, h1.keep0 K⟩, Keep.trans h2 (Up.of K)⟩
theorem LoopI.up {w0 w : World} {A : Ad} (h : LoopI w0 w A) : Up w0.heap.size w0 w := h.2.2
/-- Both at first. -/
theorem new_both (n mk : Nat) (h0 : 8 ≤ n) (h1 : n ≤ 1024) (hm : mk ≤ n) (w : World) :
    Calls Tryz.prog 17 #[.int .i64 (n : Int), .int .i64 (mk : Int)] w fun e w1 => ∃ m, e = .returned (.tuple #[.pointer (some ⟨m, 0, none⟩), .int .i64 0]) ∧ Keep (fun _ => False) w w1 ∧
      (∀ w2, Keep (fun _ => False) w1 w2 → Calls Tryz.prog 18 #[.int .i64 (n : Int), .int .i64 (mk : Int)] w2 fun e w3 => ∃ A : Ad, A.m = m ∧ A.n = n ∧ e = .returned (.tuple #[.pointer (some ⟨A.X, 0, none⟩), .int .i64 0]) ∧ A.B = w.heap.size ∧ BoE w3 A (P0 n) (P0 n) ∧ Keep (fun _ => False) w2 w3) := by
  refine (mnew_any n mk h0 h1 hm w).mono ?_
  rintro e w1 ⟨m, r, rb, k, b, kr, f, q, rfl, hMo, hk1⟩
  refine ⟨m, rfl, hk1, fun w2 hk2 => ?_⟩
  refine (xnew_any n mk h0 h1 hm w2).mono ?_
  rintro e w3 ⟨X, K, x, g, rr, cap, W, wg, g2, rfl, hMx, hr1, hr2, hk3⟩
  have hmo := hMo ⟨w.heap.size, m, r, rb, k, b, kr, f, q, n, mk, X, K, x, g, rr, cap, W, wg⟩ ⟨rfl, rfl, rfl, rfl, rfl, rfl, rfl, rfl, rfl, rfl, rfl⟩
  have hmx := hMx ⟨w.heap.size, m, r, rb, k, b, kr, f, q, n, mk, X, K, x, g, rr, cap, W, wg⟩ ⟨rfl, rfl, rfl, rfl, rfl, rfl, rfl, rfl, rfl, rfl⟩ (Nat.le_trans hk1.size hk2.size)
  have hkr := hmo.ko.mt.lt
  have hql := block_lt hmo.rf.hq
  simp only at hkr hql
  have s2 := hk2.size
  have hrl := hmx.rk.mt.lt
  simp only at hrl
  have hgl : g2 < w3.heap.size := by obtain ⟨⟨c3, h3⟩, _⟩ := own_typ3 hmx.ri (z := g2) rfl; exact block_lt h3
  have hmo3 := hmo.keepN (D := fun z => z = rr ∨ z = g2) (hk2.trans hk3) id id id (fun _ _ => id) id id id id id (by
    rintro z (rfl | rfl)
    · exact ⟨hrl, .inl (by omega)⟩
    · exact ⟨hgl, .inl (by omega)⟩)
  refine ⟨_, rfl, rfl, rfl, rfl, ⟨⟨_, _, ⟨hmo3, hmx, .inr (.inl rfl), ?_, ?_, ?_⟩⟩, lk0 n, lk0 n⟩, hk3⟩
  · intro z hz
    simp [Value.ownBlock] at hz
    exact .inr (.inr hz.symm)
  · simp only [ne_eq]; omega
  · intro z hz
    simp [Value.ownBlock] at hz
    simp only [ne_eq]; omega
def sm (n : Int) : Int := if 80 < n ∧ n ≤ 1024 then 80 else n
theorem sm_is (n mk : Int) : (sm n < 8 ∨ 1024 < sm n) ∨ (∃ m : Nat, sm n = m ∧ 8 ≤ m ∧ m ≤ 80 ∧ (mk < 0 ∨ (m : Int) < mk)) ∨ ∃ m k : Nat, sm n = m ∧ 8 ≤ m ∧ m ≤ 80 ∧ mk = k ∧ k ≤ m := by
  unfold sm
  split
  · by_cases h : mk < 0 ∨ (80 : Int) < mk
    · exact .inr (.inl ⟨80, rfl, by omega, by omega, h⟩)
    · exact .inr (.inr ⟨80, mk.toNat, rfl, by omega, by omega, by omega, by omega⟩)
  · by_cases h1 : n < 8 ∨ 1024 < n
    · exact .inl h1
    · by_cases h : mk < 0 ∨ n < mk
      · exact .inr (.inl ⟨n.toNat, by omega, by omega, by omega, by omega⟩)
      · exact .inr (.inr ⟨n.toNat, mk.toNat, by omega, by omega, by omega, by omega, by omega⟩)

end Go.Proofs.YtjffdimlbppgcaaGreat
