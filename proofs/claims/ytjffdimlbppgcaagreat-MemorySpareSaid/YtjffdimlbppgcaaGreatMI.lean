/- Memory: the pairs; do: Block, At of both. -/
import Derived.Test.YtjffdimlbppgcaaGreatMH
set_option linter.unusedVariables false
set_option linter.unusedSimpArgs false
namespace Go.Proofs.YtjffdimlbppgcaaGreat
open Go.RowKit Go.Own

theorem asv {w2 : World} {A : Ad} {iv : Value} {f : Nat} {args : Array Value} {R : Value → PS → Prop} (h : Calls Tryz.prog f args w2 fun e w' => ∃ E P1, e = .returned E ∧ R E P1 ∧ Mx w' A iv P1 ∧ Keep (RC A iv) w2 w') :
    Calls Tryz.prog f args w2 fun e w' => ∃ E P1 iv', e = .returned E ∧ R E P1 ∧ Mx w' A iv' P1 ∧ Keep (RC A iv) w2 w' ∧ (∀ z, iv'.ownBlock = some z → iv.ownBlock = some z ∨ w2.heap.size ≤ z) := by
  refine h.mono ?_
  rintro e w' ⟨E, P1, rfl, h1, h2, h3⟩
  exact ⟨E, P1, iv, rfl, h1, h2, h3, fun _ h => .inl h⟩
/-- The second call's contract. -/
def NxX (A : Ad) (P P1 : PS) (f : Nat) (args : Array Value) (E : Value) : Prop := ∀ w2, BoE w2 A P1 P → Calls Tryz.prog f args w2 fun e w3 => e = .returned E ∧ BoE w3 A P1 P1 ∧ KM A w2 w3
def PrC (w : World) (A : Ad) (P : PS) (R : Value → PS → Prop) (f : Nat) (args : Array Value) (e : Ending) (w1 : World) : Prop := ∃ E P1, e = .returned E ∧ R E P1 ∧ BoE w1 A P1 P ∧ KM A w w1 ∧ NxX A P P1 f args E
theorem one_any {w : World} {A : Ad} {N : Nat → Prop} {P : PS} (x is : Int) (h : Mo w A N P) (lk : Lk A.n P) :
    Calls Tryz.prog 11 #[.pointer (some ⟨A.m, 0, none⟩), .int .i64 x, .int .i64 is] w fun e w' => ∃ E P1, e = .returned E ∧ BlkR A P 0 x is E P1 ∧ Mo w' A N P1 ∧ Keep (PC A N w) w w' := by
  have HM := Lib.hid h
  have HK := Lib.hid lk
  clear h lk
  go_enter Tryz.func11, Tryz.ntmps11
  go_wp2_with fail
  refine (block_any 0 x is (HM.out.keep0 (by (repeat (first | exact Keep.refl _ _ | exact Keep.refl _ _ | refine Keep.drew ?_ | refine Keep.drewN ?_ _ | refine Keep.alloc ?_ _ | refine Keep.setNew ?_ (by omega) _)); done)) HK.out).mono ?_
  rintro e w5 ⟨E, P1, rfl, hr, hm, hk⟩
  obtain ⟨a, er, rfl⟩ : ∃ a er : Int, E = .tuple #[.int .i64 a, .int .i64 er] := by
    rcases hr with ⟨_, rfl, _⟩ | ⟨_, _, rfl, _⟩ | ⟨_, _, D, _, ⟨_, rfl, _⟩ | ⟨y, own, _, rfl, _⟩⟩ <;> exact ⟨_, _, rfl⟩
  have HR := Lib.hid hr
  have HM5 := Lib.hid hm
  have HK5 := Lib.hid (pc_on (w := w) (by (repeat (first | exact Keep.refl _ _ | exact Keep.refl _ _ | refine Keep.drew ?_ | refine Keep.drewN ?_ _ | refine Keep.alloc ?_ _ | refine Keep.setNew ?_ (by omega) _)); done) hk)
  clear hr hm hk
  go_wp2
  go_ret2
  exact ⟨_, P1, rfl, HR.out, HM5.out, HK5.out⟩
section
variable {w : World} {A : Ad} {P : PS}
theorem BlkR.form {o x is : Int} {E : Value} {P1 : PS} (h : BlkR A P o x is E P1) : ∃ a er : Int, E = .tuple #[.int .i64 a, .int .i64 er] := by
  rcases h with ⟨_, rfl, _⟩ | ⟨_, _, rfl, _⟩ | ⟨_, _, D, _, ⟨_, rfl, _⟩ | ⟨y, own, _, rfl, _⟩⟩ <;> exact ⟨_, _, rfl⟩
theorem AtR.form {f o is : Int} {E : Value} {P1 : PS} (h : AtR A P f o is E P1) : ∃ er : Int, E = .int .i64 er := by
  rcases h with ⟨_, rfl, _⟩ | ⟨_, _, rfl, _⟩ | ⟨_, _, f', o', _, _, ⟨_, rfl, _⟩ | ⟨_, rfl, _⟩⟩ <;> exact ⟨_, rfl⟩
theorem DrR.form {f o : Int} {E : Value} {P1 : PS} (h : DrR A P f o E P1) : ∃ er : Int, E = .int .i64 er := by
  rcases h with ⟨_, rfl, _⟩ | ⟨_, f', o', _, _, ⟨_, rfl, _⟩ | ⟨_, rfl, _⟩⟩ <;> exact ⟨_, rfl⟩
theorem TuR.form {f n a b : Int} {E : Value} {P1 : PS} (h : TuR P f n a b E P1) : ∃ er : Int, E = .int .i64 er := by
  rcases h with ⟨_, rfl, _⟩ | ⟨_, rfl, _⟩ <;> exact ⟨_, rfl⟩
theorem SeR.form {i y : Int} {E : Value} {P1 : PS} (h : SeR A P i y E P1) : ∃ er : Int, E = .int .i64 er := by
  rcases h with ⟨_, rfl, _⟩ | ⟨_, _, rfl, _⟩ | ⟨_, _, rfl, _⟩ <;> exact ⟨_, rfl⟩
theorem p_block (o x is : Int) (h : BoE w A P P) : Calls Tryz.prog 15 #[.pointer (some ⟨A.m, 0, none⟩), .int .i64 o, .int .i64 x, .int .i64 is] w (PrC w A P (BlkR A P o x is) 45 #[.pointer (some ⟨A.X, 0, none⟩), .int .i64 o, .int .i64 x, .int .i64 is]) :=
  pair (BlkR A P o x is) (fun _ _ _ _ => BlkR.fn) (fun _ _ r => r.lk h.2.1) (fun N m => block_any o x is m h.2.1) (fun w2 iv m hk _ => asv (rblock_any o x is m h.2.1 hk)) h
theorem p_one (x is : Int) (h : BoE w A P P) : Calls Tryz.prog 11 #[.pointer (some ⟨A.m, 0, none⟩), .int .i64 x, .int .i64 is] w (PrC w A P (BlkR A P 0 x is) 45 #[.pointer (some ⟨A.X, 0, none⟩), .int .i64 0, .int .i64 x, .int .i64 is]) :=
  pair (BlkR A P 0 x is) (fun _ _ _ _ => BlkR.fn) (fun _ _ r => r.lk h.2.1) (fun N m => one_any x is m h.2.1) (fun w2 iv m hk _ => asv (rblock_any 0 x is m h.2.1 hk)) h
theorem p_at (f o is : Int) (hf : i64B f) (h : BoE w A P P) : Calls Tryz.prog 46 #[.pointer (some ⟨A.m, 0, none⟩), .int .i64 f, .int .i64 o, .int .i64 is] w (PrC w A P (AtR A P f o is) 47 #[.pointer (some ⟨A.X, 0, none⟩), .int .i64 f, .int .i64 o, .int .i64 is]) :=
  pair (AtR A P f o is) (fun _ _ _ _ => AtR.fn) (fun _ _ r => r.lk h.2.1) (fun N m => at_any f o is m h.2.1) (fun w2 iv m hk _ => asv (rat_any f o is hf m h.2.1)) h
theorem p_drop (f o : Int) (hf : i64B f) (h : BoE w A P P) : Calls Tryz.prog 23 #[.pointer (some ⟨A.m, 0, none⟩), .int .i64 f, .int .i64 o] w (PrC w A P (DrR A P f o) 48 #[.pointer (some ⟨A.X, 0, none⟩), .int .i64 f, .int .i64 o]) :=
  pair (DrR A P f o) (fun _ _ _ _ => DrR.fn) (fun _ _ r => r.lk h.2.1) (fun N m => mdrop_any f o m h.2.1) (fun w2 iv m hk _ => asv (rdrop_any f o hf m h.2.1)) h
theorem p_turn (f n a b : Int) (h : BoE w A P P) : Calls Tryz.prog 49 #[.pointer (some ⟨A.m, 0, none⟩), .int .i64 f, .int .i64 n, .int .i64 a, .int .i64 b] w (PrC w A P (TuR P f n a b) 50 #[.pointer (some ⟨A.X, 0, none⟩), .int .i64 f, .int .i64 n, .int .i64 a, .int .i64 b]) :=
  pair (TuR P f n a b) (fun _ _ _ _ => TuR.fn) (fun _ _ r => r.lk h.2.1) (fun N m => mturn_any f n a b m) (fun w2 iv m hk hB => rturn_any f n a b m h.2.1 hB) h
theorem p_set (i y : Int) (h : BoE w A P P) : Calls Tryz.prog 51 #[.pointer (some ⟨A.m, 0, none⟩), .int .i64 i, .int .i64 y] w (PrC w A P (SeR A P i y) 52 #[.pointer (some ⟨A.K, 0, none⟩), .int .i64 i, .int .i64 y]) :=
  pair (SeR A P i y) (fun _ _ _ _ => SeR.fn) (fun _ _ r => r.lk h.2.1) (fun N m => mset_any i y m) (fun w2 iv m hk _ => asv (rkset_any i y m)) h
theorem p_store (i v : Nat) (hi : i < 8 * A.n) (hv : v < 18446744073709551616) (h : BoE w A P P) : Calls Tryz.prog 53 #[.pointer (some ⟨A.r, 0, none⟩), .int .i64 ((8 * i : Nat) : Int), .int .u64 (v : Int)] w (PrC w A P (fun E P1 => E = .int .i64 0 ∧ P1 = { P with W := setW P.W i v }) 54 #[.pointer (some ⟨A.W, 0, none⟩), .int .i64 ((8 * i : Nat) : Int), .int .u64 (v : Int)]) :=
  pair (fun E P1 => E = .int .i64 0 ∧ P1 = { P with W := setW P.W i v }) (fun _ _ _ _ r r' => ⟨r.1.trans r'.1.symm, r.2.trans r'.2.symm⟩) (fun _ _ r => by rw [r.2]; exact st_lk h.2.1 hv) (fun N m => mstore_any i v m hi hv) (fun w2 iv m hk _ => asv (rstore_any i v m hi)) h
end
theorem cells6 {w : World} {b e : Nat} {x0 x1 x2 x3 x4 x5 : Value} {z : Nat × Nat} (hb : w.heap[b]? = some (.cells #[x0, x1, x2, x3, x4, x5] e z)) :
    w.cell? ⟨b, 0, none⟩ = some x0 ∧ w.cell? ⟨b, 1, none⟩ = some x1 ∧ w.cell? ⟨b, 2, none⟩ = some x2 ∧ w.cell? ⟨b, 3, none⟩ = some x3 ∧ w.cell? ⟨b, 4, none⟩ = some x4 ∧ w.cell? ⟨b, 5, none⟩ = some x5 := by simp [cell_block hb]
theorem sw3 {K : Int} (h : K = 0 ∨ K = 1 ∨ K = 2) : (K == 0) = true ∨ ((K == 0) = false ∧ (K == 1) = true) ∨ ((K == 0) = false ∧ (K == 1) = false ∧ (K == 2) = true) := by
  rcases h with rfl | rfl | rfl
  · exact .inl rfl
  · exact .inr (.inl ⟨rfl, rfl⟩)
  · exact .inr (.inr ⟨rfl, rfl, rfl⟩)
/-- What do does. -/
def DoC (w : World) (A : Ad) (e : Ending) (w' : World) : Prop := e = .returned (.bool true) ∧ ∃ P1, BoE w' A P1 P1 ∧ KM A w w'
def actB (K f o y s n : Int) : Obj := .cells #[.int .i64 K, .int .i64 f, .int .i64 o, .int .i64 y, .int .i64 s, .int .i64 n] 42
set_option maxRecDepth 100000 in
set_option maxHeartbeats 4000000 in
theorem do_block {w : World} {A : Ad} {P : PS} (K f o y s n : Int) (hK : K = 0 ∨ K = 1 ∨ K = 2) (h : BoE w A P P) :
    Calls Tryz.prog 19 #[.pointer (some ⟨A.m, 0, none⟩), .pointer (some ⟨A.X, 0, none⟩), .agg #[.int .i64 K, .int .i64 f, .int .i64 o, .int .i64 y, .int .i64 s, .int .i64 n]] w (DoC w A) := by
  have HB := Lib.hid h
  clear h
  rcases sw3 hK with q0 | ⟨q0, q1⟩ | ⟨q0, q1, q2⟩
  all_goals
    clear hK
    have HBX : Hid ((w.alloc (.cells #[.int .i64 K, .int .i64 f, .int .i64 o, .int .i64 y, .int .i64 s, .int .i64 n] 42)).heap[w.heap.size]? = some (.cells #[.int .i64 K, .int .i64 f, .int .i64 o, .int .i64 y, .int .i64 s, .int .i64 n] 42 (0, 0))) := heap_alloc_new w _
    have HK1 : Hid (Keep (fun _ => False) w (w.alloc (.cells #[.int .i64 K, .int .i64 f, .int .i64 o, .int .i64 y, .int .i64 s, .int .i64 n] 42))) := (Keep.refl _ _).alloc _
    go_enter Tryz.func19, Tryz.ntmps19
    go_wp2_with fail
    obtain ⟨b5, hb5⟩ : ∃ b5, w.heap.size = b5 := ⟨_, rfl⟩
    rw [hb5] at HBX ⊢
    generalize w.alloc (.cells #[.int .i64 K, .int .i64 f, .int .i64 o, .int .i64 y, .int .i64 s, .int .i64 n] 42) = w1 at HBX HK1 ⊢
    clear hb5
    have HB1 := Lib.hid (HB.out.keep0 HK1.out)
    refine (p_block o y s (HB1.out.keep0 (by (repeat (first | exact Keep.refl _ _ | exact Keep.refl _ _ | refine Keep.drew ?_ | refine Keep.drewN ?_ _ | refine Keep.alloc ?_ _ | refine Keep.setNew ?_ (by omega) _)); done))).mono ?_
    rintro e w5 ⟨E, P1, rfl, hR, hb5, hk5, hx5⟩
    obtain ⟨ra, er, rfl⟩ := hR.form
    have HX5 := Lib.hid hx5
    have HB5 := Lib.hid hb5
    have HK5 : Hid (KM A w w5) := (KM.of HK1.out).trans ((KM.of (by (repeat (first | exact Keep.refl _ _ | exact Keep.refl _ _ | refine Keep.drew ?_ | refine Keep.drewN ?_ _ | refine Keep.alloc ?_ _ | refine Keep.setNew ?_ (by omega) _)); done)).trans hk5)
    have HBX5 := Lib.hid (km_block hk5 HBX.out (by decide))
    obtain ⟨d0, d1, d2, d3, d4, d5⟩ := cells6 HBX5.out
    clear hR hb5 hk5 hx5
    go_wp2_with (go_at_call 45; refine (HX5.out _ (HB5.out.keep0 (by (repeat (first | exact Keep.refl _ _ | exact Keep.refl _ _ | refine Keep.drew ?_ | refine Keep.drewN ?_ _ | refine Keep.alloc ?_ _ | refine Keep.setNew ?_ (by omega) _)); done))).mono ?_; rintro e w6 ⟨rfl, hb6, hk6⟩; have HB6 := Lib.hid hb6; have HK6 : Hid (KM A w w6) := HK5.out.trans ((KM.of (by (repeat (first | exact Keep.refl _ _ | exact Keep.refl _ _ | refine Keep.drew ?_ | refine Keep.drewN ?_ _ | refine Keep.alloc ?_ _ | refine Keep.setNew ?_ (by omega) _)); done)).trans hk6); clear hb6 hk6)
    go_ret
    exact ⟨rfl, P1, HB6.out, HK6.out⟩

end Go.Proofs.YtjffdimlbppgcaaGreat
