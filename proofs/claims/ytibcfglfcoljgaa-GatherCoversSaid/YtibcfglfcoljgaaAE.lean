/- Gather: the reference's first and Take. -/
import Derived.Test.YtibcfglfcoljgaaAD
import Derived.Deep.RegionLaw
set_option linter.unusedVariables false
set_option linter.unusedSimpArgs false
namespace Go.Proofs.Ytibcfglfcoljgaa
open Go.RowKit Go.Own

def leS (a b : Sp) : Prop := a.s < b.s ∨ (a.s = b.s ∧ a.p ≤ b.p)
theorem leS_refl (a : Sp) : leS a a := .inr ⟨rfl, Int.le_refl _⟩
theorem leS_trans {a b c : Sp} (h : leS a b) (k : leS b c) : leS a c := by unfold leS at *; omega

/-- Behind i of them the first is number k. -/
def Fst (P : List Sp) (i : Nat) (k : Int) : Prop := (i = 0 ∧ k = -1) ∨ ∃ kk : Nat, k = kk ∧ kk < i ∧ ∃ h : kk < P.length, ∀ j (hj : j < P.length), j < i → leS P[kk] P[j]

set_option maxRecDepth 100000 in
set_option maxHeartbeats 2000000 in
theorem first_any (B : Nat) (v : Value) (P : List Sp) (w : World) (hv : OwnL spE w B 42 v P) (hn : P ≠ []) (hl : P.length ≤ 5000) :
    Calls Try.prog 24 #[v] w fun e w' => ∃ k, ∃ hk : k < P.length, e = .returned (.int .i64 (k : Nat)) ∧ (∀ j (hj : j < P.length), leS P[k] P[j]) ∧ Keep (fun _ => False) w w' := by
  obtain ⟨g, c, rfl, -⟩ := hv.form hn
  have hl0 : 0 < P.length := List.length_pos_iff.mpr hn
  go_enter Try.func24, Try.ntmps24
  go_wp2
  go_loopw [3, 4] (fun b i wr => ∃ k : Nat, k ≤ P.length ∧ i = .int .i64 k ∧ ∃ z : Int, b = .int .i64 z ∧ Fst P k z ∧ Keep (fun _ => False) w wr) (fun _ i _ => P.length - (intOf i).toNat)
  case atStart => exact ⟨0, by omega, rfl, -1, rfl, .inl ⟨rfl, rfl⟩, Keep.refl _ _⟩
  case round =>
    obtain ⟨k, hk, rfl, z, rfl, hF, hkeep⟩ := hrel
    have HF := Lib.hid hF
    have HK := Lib.hid hkeep
    clear hkeep
    by_cases hlt : k < P.length
    · obtain ⟨c0, c1⟩ := sp_cells (hv.keep HK.out (fun _ _ => id)) hlt
      have hk0 : (0 : Int) ≤ (k : Int) := Int.natCast_nonneg k
      have hk1 : (k : Int) < (P.length : Int) := Int.ofNat_lt.mpr hlt
      rcases hF with ⟨rfl, rfl⟩ | ⟨kk, rfl, hkk, hkP, hmin⟩
      · have HF1 : Hid (Fst P (0 + 1) 0) := .inr ⟨0, rfl, by omega, hl0, fun j hj hj1 => by
          obtain rfl : j = 0 := by omega
          exact leS_refl _⟩
        have t0 : decide ((-1 : Int) < 0) = true := by decide
        go_wp2
        go_quiet (fail)
        go_wp2
        go_roundw
        case rel => exact ⟨0 + 1, by omega, by go_num, 0, rfl, HF1.out, HK.out.drewN _⟩
        case measure => simp [intOf]; omega
      · obtain ⟨d0, d1⟩ := sp_cells (hv.keep HK.out (fun _ _ => id)) hkP
        have HM := Lib.hid hmin
        clear hmin
        have hyes : Hid (leS P[k] P[kk] → Fst P (k + 1) k) := fun h => .inr ⟨k, rfl, by omega, hlt, fun j hj hj1 => by
          by_cases e : j = k
          · subst e; exact leS_refl _
          · exact leS_trans h (HM.out j hj (by omega))⟩
        have hno : Hid (leS P[kk] P[k] → Fst P (k + 1) kk) := fun h => .inr ⟨kk, rfl, by omega, hkP, fun j hj hj1 => by
          by_cases e : j = k
          · subst e; exact h
          · exact HM.out j hj (by omega)⟩
        obtain ⟨x, hx⟩ : ∃ x, P[k] = x := ⟨_, rfl⟩
        obtain ⟨y, hy⟩ : ∃ y, P[kk] = y := ⟨_, rfl⟩
        rw [hx] at c0 c1
        rw [hy] at d0 d1
        rw [hx, hy] at hyes hno
        clear hx hy HM
        have hkk0 : (0 : Int) ≤ (kk : Int) := Int.natCast_nonneg kk
        have hkk1 : (kk : Int) < (P.length : Int) := Int.ofNat_lt.mpr hkP
        have t0 : decide ((kk : Int) < 0) = false := decide_eq_false (by omega)
        by_cases e1 : x.s < y.s
        · have t1 : decide (x.s < y.s) = true := decide_eq_true e1
          have HF1 := Lib.hid (hyes.out (.inl e1))
          clear e1 hyes hno
          go_wp2
          go_quiet (fail)
          go_wp2
          go_roundw
          case rel => exact ⟨k + 1, by omega, by go_num, k, rfl, HF1.out, HK.out.drewN _⟩
          case measure => simp [intOf]; omega
        · have t1 : decide (x.s < y.s) = false := decide_eq_false e1
          by_cases e2 : x.s = y.s
          · have t2 : (x.s == y.s) = true := by simpa using e2
            by_cases e3 : x.p < y.p
            · have t3 : decide (x.p < y.p) = true := decide_eq_true e3
              have HF1 := Lib.hid (hyes.out (.inr ⟨e2, by omega⟩))
              clear e1 e2 e3 hyes hno
              go_wp2
              go_quiet (fail)
              go_wp2
              go_roundw
              case rel => exact ⟨k + 1, by omega, by go_num, k, rfl, HF1.out, HK.out.drewN _⟩
              case measure => simp [intOf]; omega
            · have t3 : decide (x.p < y.p) = false := decide_eq_false e3
              have HF1 := Lib.hid (hno.out (.inr ⟨e2.symm, by omega⟩))
              clear e1 e2 e3 hyes hno
              go_wp2
              go_quiet (fail)
              go_wp2
              go_roundw
              case rel => exact ⟨k + 1, by omega, by go_num, kk, rfl, HF1.out, HK.out.drewN _⟩
              case measure => simp [intOf]; omega
          · have t2 : (x.s == y.s) = false := by simpa using e2
            have HF1 := Lib.hid (hno.out (.inl (by omega)))
            clear e1 e2 hyes hno
            go_wp2
            go_quiet (fail)
            go_wp2
            go_roundw
            case rel => exact ⟨k + 1, by omega, by go_num, kk, rfl, HF1.out, HK.out.drewN _⟩
            case measure => simp [intOf]; omega
    · obtain rfl : k = P.length := by omega
      rcases hF with ⟨h0, _⟩ | ⟨kk, rfl, hkk, hkP, hmin⟩
      · exact absurd h0 (by omega)
      · have HM := Lib.hid hmin
        clear hmin
        go_wp2
        go_ret
        exact ⟨kk, hkP, rfl, fun j hj => HM.out j hj hj, HK.out⟩

end Go.Proofs.Ytibcfglfcoljgaa
