/- MemorySpare: for every input the law returns true, and each argument reads as it did. The row, out of the walk. -/
import Derived.Test.YtjffdimlbppgcaaGreatRows
import Derived.Test.YtjffdimlbppgcaaGreatMX
import Derived.Test.YtjffdimlbppgcaaGreatArgs
import Derived.WalkKit
import Derived.ProofKit
import Derived.OpenShut
import Derived.ShutString
import Derived.ChangeOld
import Derived.Below
import Derived.SizedLaws
namespace Go.Proofs.YtjffdimlbppgcaaGreat.memorySpare
open Go.ChangeShapes Go.WideShapes Go.ChangeAt Go.RowKit Go.Own
set_option linter.unusedVariables false
theorem own : ownKnob Tryz.prog.godebug = none := by kernel_rfl
theorem laidOut : laidOutB Tryz.prog = true := by kernel_rfl
theorem fs0 : flatK Tryz.prog 5 24 = some [.int .i64, .int .i64, .slice 22, .int .u8] := by kernel_rfl
theorem fk1 : flatK Tryz.prog 5 42 = some [.int .i64, .int .i64, .int .i64, .int .i64, .int .i64, .int .i64] := by kernel_rfl
set_option maxRecDepth 100000 in
theorem lifted (os : Os) (started : os.Started) (H : Type) (enc : TypeId × Value → H) :
    ReturnsInHanded {} Tryz.checked os 3 .any (Rows.memorySpareSpec.pre6 enc Tryz.prog Tryz.f3 Rows.memorySpareRow.domain false) (Rows.memorySpareSpec.post enc Tryz.prog Tryz.f3 false true false false) := by
  refine returnsInHanded_of_change (C := Tryz.checked) own started (by kernel_rfl) Tryz.func3
    (ChangeSpec.witness6 (enc := enc) (C := Tryz.checked) false ⟨#[], #[.agg #[.int .i64 0, .int .i64 0, .slice none 0 0, .int .u8 0]], []⟩ 8 (by kernel_rfl) (by kernel_rfl) (by kernel_rfl) (by kernel_rfl)) ?_
  intro W base args ds gs before hval0 hW hcnd _
  have hval : ∀ (j : Nat) t v, Tryz.f3.params[j]? = some t → args[j]? = some v → Value.okWide Tryz.prog W .any base t v := hval0
  have hW' := hW
  obtain ⟨p, q, hA0, hV, rfl, hfz, hnd⟩ := hW
  have hA : DataW.TrodAll enc Tryz.prog W 0 (fun _ => true) true Tryz.f3.params.toList args.toList ds p := hA0
  rw [Tryz.params3] at hA hval
  obtain ⟨v0, vs0, d0, ds0, p0, q0, hargs, rfl, rfl, h0, r0⟩ := trodAll_cons hA
  obtain ⟨rfl, rfl, rfl⟩ := trodAll_nil r0
  obtain rfl : args = #[v0] := by cases args; simp_all
  obtain ⟨rfl, rfl⟩ := trodVars_none hV
  obtain ⟨ca0, rfl, _⟩ := okWide_struct Tryz.underlying24 (hval 0 24 v0 rfl rfl)
  have k0 := h0
  have lt0 : ∀ x ∈ p0, x.block < W.heap.size := by obtain ⟨m, hm⟩ := k0; exact DataW.trod_lt m _ _ _ hm
  have hf0 : FlatV (SlT enc Tryz.prog W 0 (fun _ => true) true) [.int .i64, .int .i64, .slice 22, .int .u8] ca0.toList := by obtain ⟨fuel, hf⟩ := k0; exact flat_trod 5 _ _ _ _ _ fs0 hf
  have hn0 := hf0.length
  obtain ⟨x0_0, x0_1, x0_2, x0_3, hx0⟩ : ∃ x0_0 x0_1 x0_2 x0_3, ca0 = #[x0_0, x0_1, x0_2, x0_3] := by
    obtain ⟨cl⟩ := ca0
    rcases cl with _ | ⟨y0, _ | ⟨y1, _ | ⟨y2, _ | ⟨y3, _ | ⟨yy, ys⟩⟩⟩⟩⟩ <;> simp at hn0
    exact ⟨y0, y1, y2, y3, rfl⟩
  subst hx0
  obtain ⟨⟨a0_0, rfl, w0_0⟩, ⟨a0_1, rfl, w0_1⟩, s0_2, ⟨a0_3, rfl, w0_3⟩, _⟩ := hf0
  obtain ⟨la0_2, l0_2, c0_2, e0_2, hl0_2, hm0_2, hr0_2⟩ := SlT.rows Tryz.underlying22 fk1 rfl (by decide) (by kernel_rfl) s0_2
  subst e0_2
  clear hA0 hval0
  refine (spare_walk a0_0 a0_1 la0_2 l0_2 c0_2 a0_3 W hr0_2 w0_3).mono fun e W' ⟨he, bel⟩ => ?_
  subst he
  exact ⟨_, rfl, _, _, _, [], _, [], hW', trodAll_mk1 (shut_bool Tryz.underlying4 _), (trodAll_cons_mk (Below.trod laidOut (by kernel_rfl) (of_decide_eq_true (by kernel_rfl)) k0 bel lt0) trodAll_mk0), rfl, bel.frame _, fun h => by cases h⟩
theorem over : Rows.memorySpareRow.holds Tryz.pinned (OpenSpec.ofChange Rows.memorySpareSpec) :=
  OpenClaim.holds_of_wide 3 Tryz.f3 rfl rfl rfl rfl rfl rfl rfl ⟨rfl, rfl, rfl, rfl, rfl⟩ rfl rfl rfl rfl rfl (by kernel_rfl) Tryz.func3 (by kernel_rfl)
    (of_decide_eq_true (by kernel_rfl)) (by unfold Func.isWrapper; first | (rw [if_pos (by decide +kernel)]; kernel_rfl) | (rw [if_neg (by decide +kernel)]; exact ⟨rfl, rfl⟩))
    (fun os started H enc _ => lifted os started H enc)
end Go.Proofs.YtjffdimlbppgcaaGreat.memorySpare
namespace Go.Proofs.YtjffdimlbppgcaaGreat
/-- The row, under a short name, for the claim. -/
theorem memorySpare_holds : Rows.MemorySpareSaid := memorySpare.over
#print axioms memorySpare_holds
end Go.Proofs.YtjffdimlbppgcaaGreat
