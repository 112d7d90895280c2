/- Kinds: the calls as they came in; the state behind k calls. -/
import Derived.Test.YtnjcchgbkemekaaLA
import Derived.Test.YtnjcchgbkemekaaKK
import Derived.Test.YtnjcchgbkemekaaArgs
import Derived.ProofKit
set_option linter.unusedVariables false
set_option linter.unusedSimpArgs false
namespace Go.Proofs.Ytnjcchgbkemekaa
open Go.RowKit Go.Own

structure A5 where
  k : Int
  f : Int
  o : Int
  y : Int
  n : Int
/-- The i-th call, at its place. -/
def ActAt (w : World) (b o i : Nat) (x : A5) : Prop := w.cell? ⟨b, o + i * 5, none⟩ = some (.int .i64 x.k) ∧ w.cell? ⟨b, o + i * 5 + 1, none⟩ = some (.int .i64 x.f) ∧ w.cell? ⟨b, o + i * 5 + 1 + 1, none⟩ = some (.int .i64 x.o) ∧
    w.cell? ⟨b, o + i * 5 + 1 + 1 + 1, none⟩ = some (.int .i64 x.y) ∧ w.cell? ⟨b, o + i * 5 + 1 + 1 + 1 + 1, none⟩ = some (.int .i64 x.n) ∧ i64B x.f
def Acts5 (w : World) (la : Option Addr) (A : List A5) : Prop := ∀ i (h : i < A.length), ∃ b o, la = some ⟨b, o, none⟩ ∧ ActAt w b o i A[i]
theorem acts5_of_rows {w : World} {la : Option Addr} {l : Nat} (h : RowsAt w la l [.int .i64, .int .i64, .int .i64, .int .i64, .int .i64]) : ∃ A : List A5, A.length = l ∧ Acts5 w la A := by
  have h2 : ∀ i, i < l → ∃ x : A5, ∃ b o, la = some ⟨b, o, none⟩ ∧ ActAt w b o i x := by
    intro i hi
    obtain ⟨b, o, cs, ha, hf, hc⟩ := h i hi
    have hl := hf.length
    obtain ⟨c0, c1, c2, c3, c4, rfl⟩ : ∃ c0 c1 c2 c3 c4, cs = [c0, c1, c2, c3, c4] := by
      rcases cs with _ | ⟨c0, _ | ⟨c1, _ | ⟨c2, _ | ⟨c3, _ | ⟨c4, _ | ⟨c5, cs⟩⟩⟩⟩⟩⟩ <;> simp at hl
      exact ⟨c0, c1, c2, c3, c4, rfl⟩
    obtain ⟨⟨x0, rfl, _⟩, ⟨x1, rfl, w1⟩, ⟨x2, rfl, _⟩, ⟨x3, rfl, _⟩, ⟨x4, rfl, _⟩, _⟩ := hf
    have h0 := hc 0 (by decide)
    have h1 := hc 1 (by decide)
    have h2 := hc 2 (by decide)
    have h3 := hc 3 (by decide)
    have h4 := hc 4 (by decide)
    simp only [List.length_cons, List.length_nil, Nat.reduceAdd, Nat.add_zero, ← Nat.add_assoc, List.getElem?_cons_zero, List.getElem?_cons_succ] at h0 h1 h2 h3 h4
    exact ⟨⟨x0, x1, x2, x3, x4⟩, b, o, ha, h0, h1, h2, h3, h4, wf64 w1⟩
  haveI : Inhabited A5 := ⟨⟨0, 0, 0, 0, 0⟩⟩
  obtain ⟨F, hF⟩ := Deep.choose_lt h2
  exact ⟨(List.range l).map F, by simp, fun i hi => by
    have := hF i (by simpa using hi)
    simpa using this⟩
theorem ActAt.up {w w' : World} {B b o i : Nat} {x : A5} (h : ActAt w b o i x) (k : Up B w w') (hb : b < B) : ActAt w' b o i x := by
  obtain ⟨h2, h3, h4, h5, h6, h7⟩ := h
  have f : ∀ {j : Nat} {x : Value}, w.cell? ⟨b, j, none⟩ = some x → w'.cell? ⟨b, j, none⟩ = some x := fun h => (k.cell (block_lt_cell h) (by omega)).trans h
  exact ⟨f h2, f h3, f h4, f h5, f h6, h7⟩
theorem Acts5.up {w w' : World} {la : Option Addr} {A : List A5} (h : Acts5 w la A) (k : Up w.heap.size w w') : Acts5 w' la A := by
  intro i hi
  obtain ⟨b, o, h1, h2⟩ := h i hi
  exact ⟨b, o, h1, h2.up k (block_lt_cell h2.1)⟩
theorem Up.below {w w' : World} (h : Up w.heap.size w w') : Below w.heap.size w w' := ⟨h.os, h.tape, h.output, h.size, fun k hk => h.block k hk (by omega)⟩
/-- The state behind k calls. -/
def LoopI (w0 wr : World) (A : Ad) (q k : Nat) : Prop := A.B = w0.heap.size ∧ ∃ F M T, Wd wr A q F M T ∧ T.length ≤ k ∧ Up w0.heap.size w0 wr
theorem LoopI.start {w0 w : World} {A : Ad} {q : Nat} {M : Nat → Int} (hB : A.B = w0.heap.size) (h : Wd w A q (upTo A.n) M []) (k : Keep (fun _ => False) w0 w) : LoopI w0 w A q 0 :=
  ⟨hB, _, _, _, h, Nat.le_refl _, Up.of k⟩
theorem LoopI.do {w0 w : World} {A : Ad} {q k : Nat} (h : LoopI w0 w A q k) (hk : k ≤ 60) (K f o y nn : Int) (hf : i64B f) :
    Calls Try.prog 10 #[.pointer (some ⟨q, 0, none⟩), .agg #[.int .i64 K, .int .i64 f, .int .i64 o, .int .i64 y, .int .i64 nn]] w fun e w' => e = .returned (.bool true) ∧ LoopI w0 w' A q (k + 1) := by
  obtain ⟨hB, F, M, T, h1, h2, h3⟩ := h
  refine (do_any K f o y nn hf h1 (by omega)).mono ?_
  rintro e w' ⟨rfl, F', M', T', h4, h5, h6⟩
  exact ⟨rfl, hB, F', M', T', h4, by omega, Keep.trans h3 (hB ▸ h6.up)⟩
theorem LoopI.keep0 {w0 w w' : World} {A : Ad} {q k : Nat} (h : LoopI w0 w A q k) (K : Keep (fun _ => False) w w') : LoopI w0 w' A q k := by
  obtain ⟨hB, F, M, T, h1, h2, h3⟩ := h
  exact ⟨hB, F, M, T, h1.keep0 K, h2, Keep.trans h3 (Up.of K)⟩
theorem LoopI.up {w0 w : World} {A : Ad} {q k : Nat} (h : LoopI w0 w A q k) : Up w0.heap.size w0 w := by
  obtain ⟨hB, F, M, T, h1, h2, h3⟩ := h
  exact h3
/-- made gives both at the start. -/
theorem kmade_any2 (n : Int) (m : Nat) (hn : sm n = m) (h8 : 8 ≤ m) (h1 : m ≤ 150) (w : World) : Calls Try.prog 8 #[.int .i64 n] w fun e w' => ∃ (A : Ad) (q : Nat), e = .returned (.tuple #[.pointer (some ⟨q, 0, none⟩), .bool true]) ∧ A.n = m ∧ LoopI w w' A q 0 ∧ ∃ v, St w' A q (upTo m) (fun _ => 1) (upTo m) (fun _ => 1) v [] := by
  refine (kmade_any n m hn h8 h1 w).mono ?_
  rintro e w' ⟨q, k, b, kr, X, x, g, r, cap, rfl, h2, hq, hw, hk⟩
  have hS : St w' ⟨w.heap.size, k, b, kr, X, x, g, r, cap, m⟩ q (upTo m) (fun _ => 1) (upTo m) (fun _ => 1) (.slice none 0 0) [] := ⟨⟨h2.ko, h2.rk, h2.bk, h2.ne⟩, hq, OwnL.nil _ _ _, hw⟩
  exact ⟨⟨w.heap.size, k, b, kr, X, x, g, r, cap, m⟩, q, rfl, rfl, LoopI.start rfl ⟨_, hS, TkP.start m, fun _ _ => by simp⟩ hk, _, hS⟩
/-- The cells of the world and of a call. -/
abbrev WA (b o i : Nat) (yk yf yo yy yn : Int) (w : World) : Prop :=
  w.cell? ⟨b, o + i * 5, none⟩ = some (.int .i64 yk) ∧ w.cell? ⟨b, o + i * 5 + 1, none⟩ = some (.int .i64 yf) ∧ w.cell? ⟨b, o + i * 5 + 1 + 1, none⟩ = some (.int .i64 yo) ∧ w.cell? ⟨b, o + i * 5 + 1 + 1 + 1, none⟩ = some (.int .i64 yy) ∧ w.cell? ⟨b, o + i * 5 + 1 + 1 + 1 + 1, none⟩ = some (.int .i64 yn)

section
variable {w : World} {A : Ad} {F : Nat → Bool} {M : Nat → Int}
theorem d_free (h : Duo w A F M F M) : Calls Try.prog 20 #[.pointer (some ⟨A.k, 0, none⟩)] w fun e w' => e = .returned (.int .i64 (cnt F A.n : Nat)) ∧ Keep (fun _ => False) w w' := kfree h.ko
theorem d_rfree (h : Duo w A F M F M) : Calls Try.prog 11 #[.pointer (some ⟨A.x, 0, none⟩)] w fun e w' => e = .returned (.int .i64 (cnt F A.n : Nat)) ∧ Keep (fun _ => False) w w' := by
  refine (rfree_any h.rk.rx h.n1024).mono ?_
  rintro e w' ⟨rfl, rfl⟩
  exact ⟨rfl, Keep.refl _ _⟩
theorem d_rfreeOf (y : Int) (h : Duo w A F M F M) : Calls Try.prog 12 #[.pointer (some ⟨A.X, 0, none⟩), .int .i64 y] w fun e w' => e = .returned (.int .i64 (cntK F M y A.n : Nat)) ∧ Keep (fun _ => False) w w' := by
  refine (rfreeOf y h.rk).mono ?_
  rintro e w' ⟨rfl, rfl⟩
  exact ⟨rfl, Keep.refl _ _⟩
theorem d_kind {f : Nat} (h : Duo w A F M F M) (hf : f < A.n) : Calls Try.prog 17 #[.pointer (some ⟨A.k, 0, none⟩), .int .i64 (f : Int)] w fun e w' => e = .returned (.int .i64 (M (f / 8))) ∧ Keep (fun _ => False) w w' := by
  refine (kind_in h.ko hf).mono ?_
  rintro e w' ⟨rfl, rfl⟩
  exact ⟨rfl, Keep.refl _ _⟩
theorem d_of {f : Nat} (h : Duo w A F M F M) (hf : f < A.n) : Calls Try.prog 16 #[.pointer (some ⟨A.X, 0, none⟩), .int .i64 (f : Int)] w fun e w' => e = .returned (.int .i64 (M (f / 8))) ∧ Keep (fun _ => False) w w' := by
  refine (of_in h.rk hf).mono ?_
  rintro e w' ⟨rfl, rfl⟩
  exact ⟨rfl, Keep.refl _ _⟩
theorem d_rblocks (h : Duo w A F M F M) : Calls Try.prog 37 #[.pointer (some ⟨A.x, 0, none⟩)] w (BlC F w) := rblocks_any h.rk.rx h.n1024 h.ko.bf.fin
theorem d_same {B C : Nat} {v u : Value} {X Y : List Bk} (hX : IsBl F X) (hY : IsBl F Y) (hv : OwnL bkE w B 49 v X) (hu : OwnL bkE w C 49 u Y) (hl : X.length ≤ 10000) :
    Calls Try.prog 19 #[v, u] w fun e w' => e = .returned (.bool true) ∧ Keep (fun _ => False) w w' := by
  obtain rfl := isBl_eq hX hY
  exact same_bk B C v u X w hv hu (by omega)
end

end Go.Proofs.Ytnjcchgbkemekaa
