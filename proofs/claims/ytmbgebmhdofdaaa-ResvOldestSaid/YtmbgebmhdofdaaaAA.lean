/- Reservations: the reference's Oldest; Numbers. -/
import Derived.Test.YtmbgebmhdofdaaaZ
set_option linter.unusedVariables false
set_option linter.unusedSimpArgs false
namespace Go.Proofs.Ytmbgebmhdofdaaa
open Go.RowKit Go.Own

/-- The place of the one that was touched first. -/
def Least (X : List Ox) (r : Int) : Prop := (X = [] ∧ r = -1) ∨ ∃ m : Nat, ∃ h : m < X.length, r = m ∧ ∀ j, (hj : j < X.length) → X[m].t ≤ X[j].t

set_option maxRecDepth 100000 in
set_option maxHeartbeats 1000000 in
theorem oldestX_any (B q : Nat) (v : Value) (X : List Ox) (T : Int) (w : World) (hR : RepX w B q v X T) :
    Calls Try.prog 18 #[.pointer (some ⟨q, 0, none⟩)] w fun e w' => (∃ r, e = .returned (.int .i64 r) ∧ Least X r) ∧ Keep (fun _ => False) w w' := by
  have hc0 := hR.c0
  have hl := hR.hl
  obtain ⟨a, cap, rfl, hag⟩ := hR.hv.slice
  have HAG := Lib.hid hag
  clear hag
  go_enter Try.func18, Try.ntmps18
  go_wp2
  go_loopw [3, 4] (fun r i wr => ∃ k : Nat, k ≤ X.length ∧ i = .int .i64 k ∧ ∃ z : Int, r = .int .i64 z ∧ Hid ((k = 0 ∧ z = -1) ∨ ∃ m : Nat, ∃ h : m < X.length, z = m ∧ 0 < k ∧ ∀ j, (hj : j < X.length) → j < k → X[m].t ≤ X[j].t) ∧ Keep (fun _ => False) w wr) (fun _ i _ => X.length - (intOf i).toNat)
  case atStart => exact ⟨0, by omega, rfl, -1, rfl, .inl ⟨rfl, rfl⟩, Keep.refl _ _⟩
  case round =>
    obtain ⟨k, hk, rfl, z, rfl, HZ, hkeep⟩ := hrel
    have HK := Lib.hid hkeep
    have HR := Lib.hid (hR.keep0 hkeep)
    clear hkeep hc0
    have hc0 := HR.out.c0
    by_cases hlt : k < X.length
    · obtain ⟨g, rfl⟩ := HAG.out (by intro e; rw [e] at hlt; simp at hlt)
      obtain ⟨d0, d1, d2, d3, d4⟩ := ox_cells HR.out.hv hlt
      clear d0 d1 d2 d3
      obtain ⟨tk, htk⟩ : ∃ t, X[k].t = t := ⟨_, rfl⟩
      rw [htk] at d4
      have HTK := Lib.hid htk
      clear htk
      rcases HZ with ⟨rfl, rfl⟩ | ⟨m, hm, rfl, hk0, hmin⟩
      · have t0 : decide ((-1 : Int) < 0) = true := by decide
        have HN : Hid (∀ j, (hj : j < X.length) → j < 0 + 1 → X[0].t ≤ X[j].t) := fun j hj h => by
          obtain rfl : j = 0 := by omega
          exact Int.le_refl _
        go_wp2
        go_quiet (fail)
        go_wp2
        go_roundw
        case rel => exact ⟨0 + 1, by omega, by go_num, ((0 : Nat) : Int), rfl, .inr ⟨0, hlt, rfl, by omega, HN.out⟩, HK.out.drewN _⟩
        case measure => simp [intOf]; omega
      · obtain ⟨f0, f1, f2, f3, f4⟩ := ox_cells HR.out.hv hm
        clear f0 f1 f2 f3
        obtain ⟨tm, htm⟩ : ∃ t, X[m].t = t := ⟨_, rfl⟩
        rw [htm] at f4
        have HTM := Lib.hid htm
        clear htm
        have HMIN := Lib.hid hmin
        clear hmin
        have t0 : decide ((m : Int) < 0) = false := by simp
        have m0 : (0 : Int) ≤ m := by omega
        by_cases hlt2 : tk < tm
        · have t1 : decide (tk < tm) = true := by simpa using hlt2
          have HN : Hid (∀ j, (hj : j < X.length) → j < k + 1 → X[k].t ≤ X[j].t) := fun j hj h => by
            by_cases e : j = k
            · subst e; exact Int.le_refl _
            · have := HMIN.out j hj (by omega); rw [HTM.out] at this; rw [HTK.out]; omega
          clear hlt2
          go_wp2
          go_quiet (fail)
          go_wp2
          go_roundw
          case rel => exact ⟨k + 1, by omega, by go_num, (k : Int), rfl, .inr ⟨k, hlt, rfl, by omega, HN.out⟩, HK.out.drewN _⟩
          case measure => simp [intOf]; omega
        · have t1 : decide (tk < tm) = false := by simpa using hlt2
          have HN : Hid (∀ j, (hj : j < X.length) → j < k + 1 → X[m].t ≤ X[j].t) := fun j hj h => by
            by_cases e : j = k
            · subst e; rw [HTM.out, HTK.out]; omega
            · exact HMIN.out j hj (by omega)
          clear hlt2
          go_wp2
          go_quiet (fail)
          go_wp2
          go_roundw
          case rel => exact ⟨k + 1, by omega, by go_num, (m : Int), rfl, .inr ⟨m, hm, rfl, by omega, HN.out⟩, HK.out.drewN _⟩
          case measure => simp [intOf]; omega
    · obtain rfl : k = X.length := by omega
      have HL : Hid (Least X z) := by
        unfold Hid Least
        rcases HZ with ⟨h, rfl⟩ | ⟨m, hm, rfl, hk0, hmin⟩
        · exact .inl ⟨List.eq_nil_of_length_eq_zero h, rfl⟩
        · exact .inr ⟨m, hm, rfl, fun j hj => hmin j hj hj⟩
      clear HZ
      go_wp2
      go_ret
      exact ⟨⟨z, rfl, HL.out⟩, HK.out⟩

set_option maxHeartbeats 1000000 in
theorem numbers_eq (B C : Nat) (v u : Value) (X : List Int) (w : World) (hv : OwnL inE w B 3 v X) (hu : OwnL inE w C 3 u X) (hl : X.length ≤ 1000000) :
    Calls Try.prog 21 #[v, u] w fun e w' => e = .returned (.bool true) ∧ Keep (fun _ => False) w w' := by
  by_cases hn : X = []
  · subst hn
    obtain ⟨a1, c1, rfl, -⟩ := hv.slice
    obtain ⟨a2, c2, rfl, -⟩ := hu.slice
    go_enter Try.func21, Try.ntmps21
    go_wp2
    refine wp_loop_once ?_
    go_wp2
    go_ret
    exact ⟨rfl, Keep.refl _ _⟩
  · obtain ⟨g, cap, rfl, hBg, hcap, hgl⟩ := hv.form hn
    obtain ⟨g2, cap2, rfl, hBg2, hcap2, hgl2⟩ := hu.form hn
    go_enter Try.func21, Try.ntmps21
    go_wp2
    go_loopw [5] (fun i wr => ∃ k : Nat, k ≤ X.length ∧ i = .int .i64 k ∧ Keep (fun _ => False) w wr) (fun i _ => X.length - (intOf i).toNat)
    case atStart => exact ⟨0, by omega, rfl, Keep.refl _ _⟩
    case round =>
      obtain ⟨k, hk, rfl, hkeep⟩ := hrel
      have HK := Lib.hid hkeep
      clear hkeep
      by_cases hlt : k < X.length
      · have c0 := in_cell (hv.keep HK.out (fun _ _ => id)) hlt
        have c1 := in_cell (hu.keep HK.out (fun _ _ => id)) hlt
        go_wp2
        go_quiet (fail)
        go_wp2
        go_roundw
        case rel => exact ⟨k + 1, by omega, by go_num, HK.out.drewN _⟩
        case measure => simp [intOf]; omega
      · go_wp2
        go_ret
        exact ⟨rfl, HK.out⟩

end Go.Proofs.Ytmbgebmhdofdaaa
