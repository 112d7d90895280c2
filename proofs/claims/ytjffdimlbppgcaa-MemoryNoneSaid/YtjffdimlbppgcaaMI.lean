/- Memory: the pairs; do: Block, At of both. -/
import Derived.Test.YtjffdimlbppgcaaMD
set_option linter.unusedVariables false
set_option linter.unusedSimpArgs false
namespace Go.Proofs.Ytjffdimlbppgcaa
open Go.RowKit Go.Own

theorem one_any {w : World} {A : Ad} {N : Nat → Prop} {P : PS} (x is : Int) (h : Mo w A N P) (lk : Lk A.n P) :
    Calls Try.prog 4 #[.pointer (some ⟨A.m, 0, none⟩), .int .i64 x, .int .i64 is] w fun e w' => ∃ E P1, e = .returned E ∧ BlkR A P 0 x is E P1 ∧ Mo w' A N P1 ∧ Keep (PC A N w) w w' := by
  have HM := Lib.hid h
  have HK := Lib.hid lk
  clear h lk
  go_enter Try.func4, Try.ntmps4
  go_wp2_with fail
  refine (block_any 0 x is (HM.out.keep0 (by (repeat (first | exact Keep.refl _ _ | exact Keep.refl _ _ | refine Keep.drew ?_ | refine Keep.drewN ?_ _ | refine Keep.alloc ?_ _ | refine Keep.setNew ?_ (by omega) _)); done)) HK.out).mono ?_
  rintro e w5 ⟨E, P1, rfl, hr, hm, hk⟩
  obtain ⟨a, er, rfl⟩ : ∃ a er : Int, E = .tuple #[.int .i64 a, .int .i64 er] := by
    rcases hr with ⟨_, rfl, _⟩ | ⟨_, _, rfl, _⟩ | ⟨_, _, D, _, ⟨_, rfl, _⟩ | ⟨y, own, _, rfl, _⟩⟩ <;> exact ⟨_, _, rfl⟩
  have HR := Lib.hid hr
  have HM5 := Lib.hid hm
  have HK5 := Lib.hid (pc_on (w := w) (by (repeat (first | exact Keep.refl _ _ | exact Keep.refl _ _ | refine Keep.drew ?_ | refine Keep.drewN ?_ _ | refine Keep.alloc ?_ _ | refine Keep.setNew ?_ (by omega) _)); done) hk)
  clear hr hm hk
  go_wp2
  go_ret2
  exact ⟨_, P1, rfl, HR.out, HM5.out, HK5.out⟩
section
variable {w : World} {A : Ad} {P : PS}
theorem BlkR.form {o x is : Int} {E : Value} {P1 : PS} (h : BlkR A P o x is E P1) : ∃ a er : Int, E = .tuple #[.int .i64 a, .int .i64 er] := by
  rcases h with ⟨_, rfl, _⟩ | ⟨_, _, rfl, _⟩ | ⟨_, _, D, _, ⟨_, rfl, _⟩ | ⟨y, own, _, rfl, _⟩⟩ <;> exact ⟨_, _, rfl⟩
theorem AtR.form {f o is : Int} {E : Value} {P1 : PS} (h : AtR A P f o is E P1) : ∃ er : Int, E = .int .i64 er := by
  rcases h with ⟨_, rfl, _⟩ | ⟨_, _, rfl, _⟩ | ⟨_, _, f', o', _, _, ⟨_, rfl, _⟩ | ⟨_, rfl, _⟩⟩ <;> exact ⟨_, rfl⟩
theorem DrR.form {f o : Int} {E : Value} {P1 : PS} (h : DrR A P f o E P1) : ∃ er : Int, E = .int .i64 er := by
  rcases h with ⟨_, rfl, _⟩ | ⟨_, f', o', _, _, ⟨_, rfl, _⟩ | ⟨_, rfl, _⟩⟩ <;> exact ⟨_, rfl⟩
theorem TuR.form {f n a b : Int} {E : Value} {P1 : PS} (h : TuR P f n a b E P1) : ∃ er : Int, E = .int .i64 er := by
  rcases h with ⟨_, rfl, _⟩ | ⟨_, rfl, _⟩ <;> exact ⟨_, rfl⟩
theorem SeR.form {i y : Int} {E : Value} {P1 : PS} (h : SeR A P i y E P1) : ∃ er : Int, E = .int .i64 er := by
  rcases h with ⟨_, rfl, _⟩ | ⟨_, _, rfl, _⟩ | ⟨_, _, rfl, _⟩ <;> exact ⟨_, rfl⟩
end
theorem cells6 {w : World} {b e : Nat} {x0 x1 x2 x3 x4 x5 : Value} {z : Nat × Nat} (hb : w.heap[b]? = some (.cells #[x0, x1, x2, x3, x4, x5] e z)) :
    w.cell? ⟨b, 0, none⟩ = some x0 ∧ w.cell? ⟨b, 1, none⟩ = some x1 ∧ w.cell? ⟨b, 2, none⟩ = some x2 ∧ w.cell? ⟨b, 3, none⟩ = some x3 ∧ w.cell? ⟨b, 4, none⟩ = some x4 ∧ w.cell? ⟨b, 5, none⟩ = some x5 := by simp [cell_block hb]
theorem sw3 {K : Int} (h : K = 0 ∨ K = 1 ∨ K = 2) : (K == 0) = true ∨ ((K == 0) = false ∧ (K == 1) = true) ∨ ((K == 0) = false ∧ (K == 1) = false ∧ (K == 2) = true) := by
  rcases h with rfl | rfl | rfl
  · exact .inl rfl
  · exact .inr (.inl ⟨rfl, rfl⟩)
  · exact .inr (.inr ⟨rfl, rfl, rfl⟩)
def actB (K f o y s n : Int) : Obj := .cells #[.int .i64 K, .int .i64 f, .int .i64 o, .int .i64 y, .int .i64 s, .int .i64 n] 42
end Go.Proofs.Ytjffdimlbppgcaa
