/- Compounds: Lost at large. -/
import Derived.Test.YtdomdjfecnbenaaU
set_option linter.unusedVariables false
set_option linter.unusedSimpArgs false
namespace Go.Proofs.Ytdomdjfecnbenaa
open Go.RowKit Go.Own

def lostC (L : List Cp) : Nat → Nat
  | 0 => 0
  | k + 1 => lostC L k + (lostN (L.getD k ⟨0, 0⟩).f (L.getD k ⟨0, 0⟩).b 8).length
theorem lostC_le (L : List Cp) : ∀ k, lostC L k ≤ 8 * k := by
  intro k
  induction k with
  | zero => exact Nat.le_refl _
  | succ k ih => have := lostN_len (L.getD k ⟨0, 0⟩).f (L.getD k ⟨0, 0⟩).b 8; simp only [lostC]; omega

set_option maxHeartbeats 1000000 in
theorem lost_all (B p : Nat) (v u : Value) (L : List Cp) (Q : List Int) (w : World) (hR : RepC w B p v u L Q) (hf : ∀ x, x ∈ L → 0 ≤ x.f ∧ x.f < 100000) : Calls Try.prog 19 #[.pointer (some ⟨p, 0, none⟩)] w fun e w' => e = .returned (.int .i64 (lostC L L.length)) ∧ Keep (fun _ => False) w w' := by
  have hl := hR.hl
  go_enter Try.func19, Try.ntmps19
  go_wp2_with (go_at_call 12; refine (all_any B p v u L Q _ hR).mono ?_; rintro e w1 ⟨v1, rfl, hO, hk1⟩; have HO := Lib.hid hO; have HK1 := Lib.hid hk1; obtain ⟨a1, c1, rfl, hag⟩ := hO.slice; have HAG := Lib.hid hag; clear hO hk1 hag)
  go_loopw [3, 9] (fun n i wr => ∃ k : Nat, k ≤ L.length ∧ i = .int .i64 k ∧ n = .int .i64 (lostC L k) ∧ Keep (fun _ => False) w1 wr) (fun _ i _ => L.length - (intOf i).toNat)
  case atStart => exact ⟨0, by omega, rfl, rfl, Keep.refl _ _⟩
  case round =>
    obtain ⟨k, hk, rfl, rfl, hkeep⟩ := hrel
    have HK := Lib.hid hkeep
    clear hkeep
    by_cases hlt : k < L.length
    · obtain ⟨g, hg⟩ := HAG.out (by intro e; rw [e] at hlt; simp at hlt)
      subst hg
      have hO2 := Lib.hid (HO.out.keep HK.out (fun _ _ => id))
      obtain ⟨c0, c1⟩ := cp_cells hO2.out hlt
      have hxf := hf _ (List.getElem_mem hlt)
      have hxb := hR.hb _ (List.getElem_mem hlt)
      have hlc := lostC_le L k
      have HC : Hid (lostC L (k + 1) = lostC L k + (lostN L[k].f L[k].b 8).length) := by
        have e : L.getD k ⟨0, 0⟩ = L[k] := by simp [hlt]
        unfold Hid; show lostC L k + (lostN (L.getD k ⟨0, 0⟩).f (L.getD k ⟨0, 0⟩).b 8).length = _; rw [e]
      obtain ⟨x, hx⟩ : ∃ x, L[k] = x := ⟨_, rfl⟩
      rw [hx] at c0 c1 hxf hxb HC
      clear hx
      have hll := lostN_len x.f x.b 8
      have HXF := Lib.hid hxf
      clear hxf
      go_wp2_with (go_at_call 32; go_loud (refine (lost_any x HXF.out hxb _).mono ?_; rintro e w3 ⟨v3, rfl, hO3, hk3⟩; obtain ⟨a3, c3, rfl, -⟩ := hO3.slice; have HK3 : Hid (Keep (fun _ => False) wr w3) := Keep.trans (by (repeat (first | exact Keep.refl _ _ | exact Keep.refl _ _ | refine Keep.drew ?_ | refine Keep.drewN ?_ _ | refine Keep.alloc ?_ _ | refine Keep.setNew ?_ (by omega) _)); done) hk3; clear hO3 hk3))
      go_roundw
      case rel => exact ⟨k + 1, by omega, by go_num, by rw [HC.out]; go_num, HK.out.trans HK3.out⟩
      case measure => simp [intOf]; omega
    · obtain rfl : k = L.length := by omega
      go_wp2
      go_ret
      exact ⟨rfl, HK1.out.trans HK.out⟩

end Go.Proofs.Ytdomdjfecnbenaa
