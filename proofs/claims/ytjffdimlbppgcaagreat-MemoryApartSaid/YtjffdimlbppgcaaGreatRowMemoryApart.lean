/- MemoryApart: for every input the law returns true, and each argument reads as it did. The row, out of the walk. -/
import Derived.Test.YtjffdimlbppgcaaGreatRows
import Derived.Test.YtjffdimlbppgcaaGreatMV
import Derived.Test.YtjffdimlbppgcaaGreatArgs
import Derived.WalkKit
import Derived.ProofKit
import Derived.OpenShut
import Derived.ShutString
import Derived.ChangeOld
import Derived.Below
import Derived.SizedLaws
namespace Go.Proofs.YtjffdimlbppgcaaGreat.memoryApart
open Go.ChangeShapes Go.WideShapes Go.ChangeAt Go.RowKit Go.Own
set_option linter.unusedVariables false
theorem own : ownKnob Tryz.prog.godebug = none := by kernel_rfl
theorem laidOut : laidOutB Tryz.prog = true := by kernel_rfl
theorem fk0 : flatK Tryz.prog 5 42 = some [.int .i64, .int .i64, .int .i64, .int .i64, .int .i64, .int .i64] := by kernel_rfl
theorem fs1 : flatK Tryz.prog 5 42 = some [.int .i64, .int .i64, .int .i64, .int .i64, .int .i64, .int .i64] := by kernel_rfl
set_option maxRecDepth 100000 in
theorem lifted (os : Os) (started : os.Started) (H : Type) (enc : TypeId × Value → H) :
    ReturnsInHanded {} Tryz.checked os 4 .any (Rows.memoryApartSpec.pre6 enc Tryz.prog Tryz.f4 Rows.memoryApartRow.domain false) (Rows.memoryApartSpec.post enc Tryz.prog Tryz.f4 false true false false) := by
  refine returnsInHanded_of_change (C := Tryz.checked) own started (by kernel_rfl) Tryz.func4
    (ChangeSpec.witness6 (enc := enc) (C := Tryz.checked) false ⟨#[], #[.slice none 0 0, .agg #[.int .i64 0, .int .i64 0, .int .i64 0, .int .i64 0, .int .i64 0, .int .i64 0]], []⟩ 8 (by kernel_rfl) (by kernel_rfl) (by kernel_rfl) (by kernel_rfl)) ?_
  intro W base args ds gs before hval0 hW hcnd _
  have hval : ∀ (j : Nat) t v, Tryz.f4.params[j]? = some t → args[j]? = some v → Value.okWide Tryz.prog W .any base t v := hval0
  have hW' := hW
  obtain ⟨p, q, hA0, hV, rfl, hfz, hnd⟩ := hW
  have hA : DataW.TrodAll enc Tryz.prog W 0 (fun _ => true) true Tryz.f4.params.toList args.toList ds p := hA0
  rw [Tryz.params4] at hA hval
  obtain ⟨v0, vs0, d0, ds0, p0, q0, hargs, rfl, rfl, h0, r0⟩ := trodAll_cons hA
  obtain ⟨v1, vs1, d1, ds1, p1, q1, rfl, rfl, rfl, h1, r1⟩ := trodAll_cons r0
  obtain ⟨rfl, rfl, rfl⟩ := trodAll_nil r1
  obtain rfl : args = #[v0, v1] := by cases args; simp_all
  obtain ⟨rfl, rfl⟩ := trodVars_none hV
  obtain ⟨_, _, _, hv0⟩ := okWide_slice Tryz.underlying22 (hval 0 22 v0 rfl rfl)
  have k0 := h0
  have lt0 : ∀ x ∈ p0, x.block < W.heap.size := by obtain ⟨m, hm⟩ := k0; exact DataW.trod_lt m _ _ _ hm
  obtain ⟨la0, l0, c0, e0, hl0, hm0, hr0⟩ := SlT.rows (t := 22) (v := v0) Tryz.underlying22 fk0 rfl (by decide) (by kernel_rfl) (by subst hv0; obtain ⟨fuel, hf⟩ := h0; exact ⟨fuel, _, hf⟩)
  clear hv0; subst e0
  obtain ⟨ca1, rfl, _⟩ := okWide_struct Tryz.underlying42 (hval 1 42 v1 rfl rfl)
  have k1 := h1
  have lt1 : ∀ x ∈ p1, x.block < W.heap.size := by obtain ⟨m, hm⟩ := k1; exact DataW.trod_lt m _ _ _ hm
  have hf1 : FlatV (SlT enc Tryz.prog W 0 (fun _ => true) true) [.int .i64, .int .i64, .int .i64, .int .i64, .int .i64, .int .i64] ca1.toList := by obtain ⟨fuel, hf⟩ := k1; exact flat_trod 5 _ _ _ _ _ fs1 hf
  have hn1 := hf1.length
  obtain ⟨x1_0, x1_1, x1_2, x1_3, x1_4, x1_5, hx1⟩ : ∃ x1_0 x1_1 x1_2 x1_3 x1_4 x1_5, ca1 = #[x1_0, x1_1, x1_2, x1_3, x1_4, x1_5] := by
    obtain ⟨cl⟩ := ca1
    rcases cl with _ | ⟨y0, _ | ⟨y1, _ | ⟨y2, _ | ⟨y3, _ | ⟨y4, _ | ⟨y5, _ | ⟨yy, ys⟩⟩⟩⟩⟩⟩⟩ <;> simp at hn1
    exact ⟨y0, y1, y2, y3, y4, y5, rfl⟩
  subst hx1
  obtain ⟨⟨a1_0, rfl, w1_0⟩, ⟨a1_1, rfl, w1_1⟩, ⟨a1_2, rfl, w1_2⟩, ⟨a1_3, rfl, w1_3⟩, ⟨a1_4, rfl, w1_4⟩, ⟨a1_5, rfl, w1_5⟩, _⟩ := hf1
  clear hA0 hval0
  refine (apart_walk la0 l0 c0 a1_0 a1_1 a1_2 a1_3 a1_4 a1_5 W hr0).mono fun e W' ⟨he, bel⟩ => ?_
  subst he
  exact ⟨_, rfl, _, _, _, [], _, [], hW', trodAll_mk1 (shut_bool Tryz.underlying4 _), (trodAll_cons_mk (Below.trod laidOut (by kernel_rfl) (of_decide_eq_true (by kernel_rfl)) k0 bel lt0) (trodAll_cons_mk (Below.trod laidOut (by kernel_rfl) (of_decide_eq_true (by kernel_rfl)) k1 bel lt1) trodAll_mk0)), rfl, bel.frame _, fun h => by cases h⟩
theorem over : Rows.memoryApartRow.holds Tryz.pinned (OpenSpec.ofChange Rows.memoryApartSpec) :=
  OpenClaim.holds_of_wide 4 Tryz.f4 rfl rfl rfl rfl rfl rfl rfl ⟨rfl, rfl, rfl, rfl, rfl⟩ rfl rfl rfl rfl rfl (by kernel_rfl) Tryz.func4 (by kernel_rfl)
    (of_decide_eq_true (by kernel_rfl)) (by unfold Func.isWrapper; first | (rw [if_pos (by decide +kernel)]; kernel_rfl) | (rw [if_neg (by decide +kernel)]; exact ⟨rfl, rfl⟩))
    (fun os started H enc _ => lifted os started H enc)
end Go.Proofs.YtjffdimlbppgcaaGreat.memoryApart
namespace Go.Proofs.YtjffdimlbppgcaaGreat
/-- The row, under a short name, for the claim. -/
theorem memoryApart_holds : Rows.MemoryApartSaid := memoryApart.over
#print axioms memoryApart_holds
end Go.Proofs.YtjffdimlbppgcaaGreat
