/- MovingApart: for every input the law returns true, and each argument reads as it did. The row, out of the walk. -/
import Derived.Test.YtnlalihapmlceaaRows
import Derived.Test.YtnlalihapmlceaaU
import Derived.Test.YtnlalihapmlceaaArgs
import Derived.WalkKit
import Derived.ProofKit
import Derived.OpenShut
import Derived.ShutString
import Derived.ChangeOld
import Derived.Below
import Derived.SizedLaws
namespace Go.Proofs.Ytnlalihapmlceaa.movingApart
open Go.ChangeShapes Go.WideShapes Go.ChangeAt Go.RowKit Go.Own
set_option linter.unusedVariables false
theorem own : ownKnob Try.prog.godebug = none := by kernel_rfl
theorem laidOut : laidOutB Try.prog = true := by kernel_rfl
theorem fk0 : flatK Try.prog 5 24 = some [.int .i64, .int .i64, .int .i64] := by kernel_rfl
theorem fs1 : flatK Try.prog 5 24 = some [.int .i64, .int .i64, .int .i64] := by kernel_rfl
set_option maxRecDepth 100000 in
theorem lifted (os : Os) (started : os.Started) (H : Type) (enc : TypeId × Value → H) :
    ReturnsInHanded {} Try.checked os 3 .any (Rows.movingApartSpec.pre6 enc Try.prog Try.f3 Rows.movingApartRow.domain false) (Rows.movingApartSpec.post enc Try.prog Try.f3 false true false false) := by
  refine returnsInHanded_of_change (C := Try.checked) own started (by kernel_rfl) Try.func3
    (ChangeSpec.witness6 (enc := enc) (C := Try.checked) false ⟨#[], #[.slice none 0 0, .agg #[.int .i64 0, .int .i64 0, .int .i64 0], .int .i64 0], []⟩ 8 (by kernel_rfl) (by kernel_rfl) (by kernel_rfl) (by kernel_rfl)) ?_
  intro W base args ds gs before hval0 hW hcnd _
  have hval : ∀ (j : Nat) t v, Try.f3.params[j]? = some t → args[j]? = some v → Value.okWide Try.prog W .any base t v := hval0
  have hW' := hW
  obtain ⟨p, q, hA0, hV, rfl, hfz, hnd⟩ := hW
  have hA : DataW.TrodAll enc Try.prog W 0 (fun _ => true) true Try.f3.params.toList args.toList ds p := hA0
  rw [Try.params3] at hA hval
  obtain ⟨v0, vs0, d0, ds0, p0, q0, hargs, rfl, rfl, h0, r0⟩ := trodAll_cons hA
  obtain ⟨v1, vs1, d1, ds1, p1, q1, rfl, rfl, rfl, h1, r1⟩ := trodAll_cons r0
  obtain ⟨v2, vs2, d2, ds2, p2, q2, rfl, rfl, rfl, h2, r2⟩ := trodAll_cons r1
  obtain ⟨rfl, rfl, rfl⟩ := trodAll_nil r2
  obtain rfl : args = #[v0, v1, v2] := by cases args; simp_all
  obtain ⟨rfl, rfl⟩ := trodVars_none hV
  obtain ⟨_, _, _, hv0⟩ := okWide_slice Try.underlying22 (hval 0 22 v0 rfl rfl)
  have k0 := h0
  have lt0 : ∀ x ∈ p0, x.block < W.heap.size := by obtain ⟨m, hm⟩ := k0; exact DataW.trod_lt m _ _ _ hm
  obtain ⟨la0, l0, c0, e0, hl0, hm0, hr0⟩ := SlT.rows (t := 22) (v := v0) Try.underlying22 fk0 rfl (by decide) (by kernel_rfl) (by subst hv0; obtain ⟨fuel, hf⟩ := h0; exact ⟨fuel, _, hf⟩)
  clear hv0; subst e0
  obtain ⟨ca1, rfl, _⟩ := okWide_struct Try.underlying24 (hval 1 24 v1 rfl rfl)
  have k1 := h1
  have lt1 : ∀ x ∈ p1, x.block < W.heap.size := by obtain ⟨m, hm⟩ := k1; exact DataW.trod_lt m _ _ _ hm
  have hf1 : FlatV (SlT enc Try.prog W 0 (fun _ => true) true) [.int .i64, .int .i64, .int .i64] ca1.toList := by obtain ⟨fuel, hf⟩ := k1; exact flat_trod 5 _ _ _ _ _ fs1 hf
  have hn1 := hf1.length
  obtain ⟨x1_0, x1_1, x1_2, hx1⟩ : ∃ x1_0 x1_1 x1_2, ca1 = #[x1_0, x1_1, x1_2] := by
    obtain ⟨cl⟩ := ca1
    rcases cl with _ | ⟨y0, _ | ⟨y1, _ | ⟨y2, _ | ⟨yy, ys⟩⟩⟩⟩ <;> simp at hn1
    exact ⟨y0, y1, y2, rfl⟩
  subst hx1
  obtain ⟨⟨a1_0, rfl, w1_0⟩, ⟨a1_1, rfl, w1_1⟩, ⟨a1_2, rfl, w1_2⟩, _⟩ := hf1
  obtain ⟨a2, rfl, rfl, rfl, w2⟩ := open_int Try.underlying3 (hval 2 3 v2 rfl rfl) h2
  clear hA0 hval0
  refine (apart_walk la0 l0 c0 a1_0 a1_1 a1_2 a2 W hr0).mono fun e W' ⟨he, bel⟩ => ?_
  subst he
  exact ⟨_, rfl, _, _, _, [], _, [], hW', trodAll_mk1 (shut_bool Try.underlying4 _), (trodAll_cons_mk (Below.trod laidOut (by kernel_rfl) (of_decide_eq_true (by kernel_rfl)) k0 bel lt0) (trodAll_cons_mk (Below.trod laidOut (by kernel_rfl) (of_decide_eq_true (by kernel_rfl)) k1 bel lt1) (trodAll_cons_mk (shut_int Try.underlying3 w2) trodAll_mk0))), rfl, bel.frame _, fun h => by cases h⟩
theorem over : Rows.movingApartRow.holds Try.pinned (OpenSpec.ofChange Rows.movingApartSpec) :=
  OpenClaim.holds_of_wide 3 Try.f3 rfl rfl rfl rfl rfl rfl rfl ⟨rfl, rfl, rfl, rfl, rfl⟩ rfl rfl rfl rfl rfl (by kernel_rfl) Try.func3 (by kernel_rfl)
    (of_decide_eq_true (by kernel_rfl)) (by unfold Func.isWrapper; first | (rw [if_pos (by decide +kernel)]; kernel_rfl) | (rw [if_neg (by decide +kernel)]; exact ⟨rfl, rfl⟩))
    (fun os started H enc _ => lifted os started H enc)
end Go.Proofs.Ytnlalihapmlceaa.movingApart
namespace Go.Proofs.Ytnlalihapmlceaa
/-- The row, under a short name, for the claim. -/
theorem movingApart_holds : Rows.MovingApartSaid := movingApart.over
#print axioms movingApart_holds
end Go.Proofs.Ytnlalihapmlceaa
