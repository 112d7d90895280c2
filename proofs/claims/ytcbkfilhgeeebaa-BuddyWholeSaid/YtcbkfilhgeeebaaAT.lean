/- Buddy: the calls as they came in. -/
import Derived.Test.YtcbkfilhgeeebaaAS
import Derived.Test.YtcbkfilhgeeebaaW
import Derived.Test.YtcbkfilhgeeebaaArgs
set_option linter.unusedVariables false
set_option linter.unusedSimpArgs false
namespace Go.Proofs.Ytcbkfilhgeeebaa
open Go.RowKit Go.Own

structure A5 where
  k : Int
  f : Int
  o : Int
  n : Int
  h : Bool
/-- The i-th call, at its place. -/
def ActAt (w : World) (b o i : Nat) (x : A5) : Prop := w.cell? ⟨b, o + i * 5, none⟩ = some (.int .i64 x.k) ∧ w.cell? ⟨b, o + i * 5 + 1, none⟩ = some (.int .i64 x.f) ∧ w.cell? ⟨b, o + i * 5 + 1 + 1, none⟩ = some (.int .i64 x.o) ∧
    w.cell? ⟨b, o + i * 5 + 1 + 1 + 1, none⟩ = some (.int .i64 x.n) ∧ w.cell? ⟨b, o + i * 5 + 1 + 1 + 1 + 1, none⟩ = some (.bool x.h) ∧ i64B x.f
def Acts5 (w : World) (la : Option Addr) (A : List A5) : Prop := ∀ i (h : i < A.length), ∃ b o, la = some ⟨b, o, none⟩ ∧ ActAt w b o i A[i]
theorem acts5_of_rows {w : World} {la : Option Addr} {l : Nat} (h : RowsAt w la l [.int .i64, .int .i64, .int .i64, .int .i64, .bool]) : ∃ A : List A5, A.length = l ∧ Acts5 w la A := by
  have h2 : ∀ i, i < l → ∃ x : A5, ∃ b o, la = some ⟨b, o, none⟩ ∧ ActAt w b o i x := by
    intro i hi
    obtain ⟨b, o, cs, ha, hf, hc⟩ := h i hi
    have hl := hf.length
    obtain ⟨c0, c1, c2, c3, c4, rfl⟩ : ∃ c0 c1 c2 c3 c4, cs = [c0, c1, c2, c3, c4] := by
      rcases cs with _ | ⟨c0, _ | ⟨c1, _ | ⟨c2, _ | ⟨c3, _ | ⟨c4, _ | ⟨c5, cs⟩⟩⟩⟩⟩⟩ <;> simp at hl
      exact ⟨c0, c1, c2, c3, c4, rfl⟩
    obtain ⟨⟨x0, rfl, _⟩, ⟨x1, rfl, w1⟩, ⟨x2, rfl, _⟩, ⟨x3, rfl, _⟩, ⟨x4, rfl⟩, _⟩ := hf
    have h0 := hc 0 (by decide)
    have h1 := hc 1 (by decide)
    have h2 := hc 2 (by decide)
    have h3 := hc 3 (by decide)
    have h4 := hc 4 (by decide)
    simp only [List.length_cons, List.length_nil, Nat.reduceAdd, Nat.add_zero, ← Nat.add_assoc, List.getElem?_cons_zero, List.getElem?_cons_succ] at h0 h1 h2 h3 h4
    exact ⟨⟨x0, x1, x2, x3, x4⟩, b, o, ha, h0, h1, h2, h3, h4, wf64 w1⟩
  haveI : Inhabited A5 := ⟨⟨0, 0, 0, 0, false⟩⟩
  obtain ⟨F, hF⟩ := Deep.choose_lt h2
  exact ⟨(List.range l).map F, by simp, fun i hi => by
    have := hF i (by simpa using hi)
    simpa using this⟩
theorem Acts5.up {w w' : World} {la : Option Addr} {A : List A5} (h : Acts5 w la A) (k : Up w.heap.size w w') : Acts5 w' la A := by
  intro i hi
  obtain ⟨b, o, h1, h2, h3, h4, h5, h6, h7⟩ := h i hi
  have f : ∀ {j : Nat} {x : Value}, w.cell? ⟨b, j, none⟩ = some x → w'.cell? ⟨b, j, none⟩ = some x := fun h => (k.cell (block_lt_cell h) (by have := block_lt_cell h; omega)).trans h
  exact ⟨b, o, h1, f h2, f h3, f h4, f h5, f h6, h7⟩
theorem Up.below {w w' : World} (h : Up w.heap.size w w') : Below w.heap.size w w' := ⟨h.os, h.tape, h.output, h.size, fun k hk => h.block k hk (by omega)⟩
/-- The state behind k calls. -/
def LoopI (w0 wr : World) (q p x g n k : Nat) : Prop := ∃ F T, Wd wr w0.heap.size q p x g n F T ∧ T.length ≤ k ∧ Up w0.heap.size w0 wr
theorem LoopI.start {w0 w : World} {q p x g n : Nat} (h : Wd w w0.heap.size q p x g n (upTo n) []) (k : Keep (fun _ => False) w0 w) : LoopI w0 w q p x g n 0 :=
  ⟨_, _, h, Nat.le_refl _, Up.of k⟩
theorem LoopI.do {w0 w : World} {q p x g n k : Nat} (h : LoopI w0 w q p x g n k) (hk : k ≤ 60) (K f o nn : Int) (hh : Bool) (hf : i64B f) :
    Calls Try.prog 17 #[.pointer (some ⟨q, 0, none⟩), .agg #[.int .i64 K, .int .i64 f, .int .i64 o, .int .i64 nn, .bool hh]] w fun e w' => e = .returned (.bool true) ∧ LoopI w0 w' q p x g n (k + 1) := by
  obtain ⟨F, T, h1, h2, h3⟩ := h
  refine (do_any K f o nn hh hf h1 (by omega)).mono ?_
  rintro e w' ⟨rfl, F', T', h4, h5, h6⟩
  exact ⟨rfl, F', T', h4, by omega, Keep.trans h3 h6.up⟩
theorem LoopI.keep0 {w0 w w' : World} {q p x g n k : Nat} (h : LoopI w0 w q p x g n k) (K : Keep (fun _ => False) w w') : LoopI w0 w' q p x g n k := by
  obtain ⟨F, T, h1, h2, h3⟩ := h
  exact ⟨F, T, h1.keep0 K, h2, Keep.trans h3 (Up.of K)⟩

end Go.Proofs.Ytcbkfilhgeeebaa
