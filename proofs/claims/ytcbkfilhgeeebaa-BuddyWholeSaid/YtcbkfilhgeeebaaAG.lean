/- Buddy: the reference's Take, the walk. -/
import Derived.Test.YtcbkfilhgeeebaaAF
set_option linter.unusedVariables false
set_option linter.unusedSimpArgs false
namespace Go.Proofs.Ytcbkfilhgeeebaa
open Go.RowKit Go.Own

def RTakeC (w : World) (x g n : Nat) (F : Nat → Bool) (o : Nat) (e : Ending) (w' : World) : Prop :=
  (∃ k a : Nat, o ≤ k ∧ mx F k a ∧ (∀ j b, o ≤ j → j < k → ¬ mx F j b) ∧ (∀ b, b < a → ¬ mx F k b) ∧ e = .returned (.tuple #[.int .i64 (a : Int), .int .i64 0]) ∧ RX w' x g n (subB F o a) ∧ Keep (fun z => z = g) w w') ∨
  ((∀ j b, o ≤ j → ¬ mx F j b) ∧ e = .returned (.tuple #[.int .i64 0, .int .i64 8]) ∧ Keep (fun _ => False) w w')
set_option maxHeartbeats 400000 in
theorem rtake_arg (x : Nat) (o : Int) (h : o < 0 ∨ 8 < o) (w : World) : Calls Try.prog 33 #[.pointer (some ⟨x, 0, none⟩), .int .i64 o] w fun e w' => e = .returned (.tuple #[.int .i64 0, .int .i64 2]) ∧ w' = w := by
  by_cases h1 : o < 0
  · clear h
    go_enter Try.func33, Try.ntmps33
    go_wp2
    go_ret2
    exact ⟨rfl, rfl⟩
  · have h2 : 8 < o := by omega
    clear h
    go_enter Try.func33, Try.ntmps33
    go_wp2
    go_ret2
    exact ⟨rfl, rfl⟩
set_option maxRecDepth 100000 in
set_option maxHeartbeats 1000000 in
theorem rtake_any {w : World} {x g n o : Nat} {F : Nat → Bool} (h : RX w x g n F) (hn : n ≤ 1024) (hF : ∀ i, F i = true → i < n) (ho : o ≤ 8) :
    Calls Try.prog 33 #[.pointer (some ⟨x, 0, none⟩), .int .i64 (o : Int)] w (RTakeC w x g n F o) := by
  have HC := Lib.hid (fun W (K : Keep (fun _ => False) w W) => rblocks_any (h.keep K id id) hn hF)
  have RS : Hid (∀ W (K : Keep (fun _ => False) w W) (a : Nat), a + 2 ^ o ≤ n → Calls Try.prog 42 #[.pointer (some ⟨x, 0, none⟩), .int .i64 (a : Int), .int .i64 (o : Int), .bool false] W fun e w' => e = .returned (.tuple #[]) ∧ RX w' x g n (putB F o a false) ∧ Keep (fun z => z = g) W w') := fun W K a hle => rset_any false (h.keep K id id) hn ho hle
  have HF := Lib.hid hF
  have HGL : Hid (g < w.heap.size) := h.2.lt
  clear h hn hF
  have o0 : (0 : Int) ≤ o := Int.natCast_nonneg o
  have o8 : (o : Int) ≤ 8 := by omega
  go_enter Try.func33, Try.ntmps33
  go_wp2_with fail
  refine (HC.out _ (by (repeat (first | exact Keep.refl _ _ | exact Keep.refl _ _ | refine Keep.drew ?_ | refine Keep.drewN ?_ _ | refine Keep.alloc ?_ _ | refine Keep.setNew ?_ (by omega) _)); done)).mono ?_
  rintro e w1 ⟨v, D, rfl, hO, hbl, hdl, hk⟩
  obtain ⟨a, c, rfl, ha⟩ := hO.slice
  have HO := Lib.hid hO
  have HBL := Lib.hid hbl
  have HK := Lib.hid hk
  have HA := Lib.hid ha
  have HDL := Lib.hid hdl
  clear hO hbl hk ha hdl HC
  go_wp2
  go_loopw [7, 8] (fun k i w2 => ∃ (j : Nat) (kk : Int), j ≤ D.length ∧ i = .int .i64 (j : Int) ∧ k = .int .i64 kk ∧ BeI o D j kk ∧ kk < j ∧ Keep (fun _ => False) w1 w2) (fun _ i _ => D.length - (intOf i).toNat)
  case atStart => exact ⟨0, -1, by omega, rfl, rfl, .inl ⟨rfl, fun i _ h => absurd h (Nat.not_lt_zero _)⟩, by omega, Keep.refl _ _⟩
  case round =>
    obtain ⟨j, kk, hj, rfl, rfl, hb, hkj, hk2⟩ := hrel
    have HB := Lib.hid hb
    have HK2 := Lib.hid hk2
    clear hb hk2
    have j0 : (0 : Int) ≤ (j : Int) := Int.natCast_nonneg j
    by_cases hjl : j < D.length
    · obtain ⟨g1, rfl⟩ := HA.out (by intro e; rw [e] at hjl; simp at hjl)
      have j1 : (j : Int) < (D.length : Int) := by omega
      have hd := HDL.out
      have j2 : (j : Int) < 10000 := by omega
      have HO2 := Lib.hid (HO.out.keep HK2.out (fun _ _ => id))
      obtain ⟨d0, d1⟩ := bk_cells HO2.out hjl
      obtain ⟨y, hy⟩ : ∃ y, (D[j]'hjl).o = y := ⟨_, rfl⟩
      have HY := Lib.hid hy
      rw [hy] at d1
      clear hy hd
      by_cases hoy : (o : Int) ≤ y
      · have b1 : decide ((o : Int) ≤ y) = true := decide_eq_true hoy
        by_cases hk0 : kk < 0
        · have hkm : kk = -1 := by
            rcases HB.out with ⟨e, _⟩ | ⟨q, _, e, _⟩ <;> omega
          subst hkm
          have HN := Lib.hid (be_first HB.out hjl (by rw [HY.out]; exact hoy))
          go_wp2
          go_quiet (fail)
          go_wp2
          go_roundw
          case rel => exact ⟨j + 1, _, by omega, by go_num, rfl, HN.out, by omega, HK2.out.drewN _⟩
          case measure => simp [intOf]; omega
        · obtain ⟨q, rfl⟩ := Int.eq_ofNat_of_zero_le (show 0 ≤ kk by omega)
          have b2 : decide ((q : Int) < 0) = false := decide_eq_false hk0
          have hq : q < D.length := by omega
          have q0 : (0 : Int) ≤ (q : Int) := Int.natCast_nonneg q
          have q1 : (q : Int) < (D.length : Int) := by omega
          obtain ⟨e0, e1⟩ := bk_cells HO2.out hq
          obtain ⟨z, hz⟩ : ∃ z, (D[q]'hq).o = z := ⟨_, rfl⟩
          have HZ := Lib.hid hz
          rw [hz] at e1
          clear hz
          by_cases hyz : y < z
          · have b3 : decide (y < z) = true := decide_eq_true hyz
            have HN := Lib.hid (be_less HB.out hjl hq (by rw [HY.out]; exact hoy) (by rw [HY.out, HZ.out]; exact hyz))
            go_wp2
            go_quiet (fail)
            go_wp2
            go_roundw
            case rel => exact ⟨j + 1, _, by omega, by go_num, rfl, HN.out, by omega, HK2.out.drewN _⟩
            case measure => simp [intOf]; omega
          · have b3 : decide (y < z) = false := decide_eq_false hyz
            have HN := Lib.hid (be_more HB.out hjl hq (by rw [HY.out, HZ.out]; exact hyz) (by omega))
            go_wp2
            go_quiet (fail)
            go_wp2
            go_roundw
            case rel => exact ⟨j + 1, _, by omega, by go_num, rfl, HN.out, by omega, HK2.out.drewN _⟩
            case measure => simp [intOf]; omega
      · have b1 : decide ((o : Int) ≤ y) = false := decide_eq_false hoy
        have HN := Lib.hid (be_small HB.out hjl (by rw [HY.out]; omega))
        go_wp2
        go_quiet (fail)
        go_wp2
        go_roundw
        case rel => exact ⟨j + 1, _, by omega, by go_num, rfl, HN.out, by omega, HK2.out.drewN _⟩
        case measure => simp [intOf]; omega
    · obtain rfl : j = D.length := by omega
      have hE := be_end HB.out HBL.out
      rcases hE with ⟨hkk, hno⟩ | ⟨q, hq, K, a', hkk, hf, hoK, hm, h1, h2⟩
      · subst hkk
        have HNO := Lib.hid hno
        clear hno
        go_wp2
        go_ret2
        exact .inr ⟨HNO.out, rfl, HK.out.trans HK2.out⟩
      · subst hkk
        obtain ⟨g1, rfl⟩ := HA.out (by intro e; rw [e] at hq; simp at hq)
        have HO2 := Lib.hid (HO.out.keep HK2.out (fun _ _ => id))
        obtain ⟨d0, d1⟩ := bk_cells HO2.out hq
        rw [hf] at d0
        have q0 : (0 : Int) ≤ (q : Int) := Int.natCast_nonneg q
        have q1 : (q : Int) < (D.length : Int) := by omega
        have hk0 : ¬ (q : Int) < 0 := by omega
        have HM := Lib.hid (And.intro hoK (And.intro hm (And.intro h1 h2)))
        have hle : a' + 2 ^ o ≤ n := by
          have e1 := Nat.pow_le_pow_right (n := 2) (by decide) hoK
          have e2 := p2 o
          have := HF.out (a' + 2 ^ o - 1) (hm.2.2.1 _ (by omega) (by omega))
          omega
        have HLE := Lib.hid hle
        have HFF := Lib.hid hf
        have HQ := Lib.hid hq
        clear hle hf hoK hm h1 h2
        go_wp2_with fail
        refine (RS.out _ (HK.out.trans HK2.out) a' HLE.out).mono ?_
        rintro e w3 ⟨rfl, hx3, hk3⟩
        have HX3 := Lib.hid hx3
        have HK3 := Lib.hid hk3
        have HO3 := Lib.hid (HO2.out.keep hk3 (fun z hz e => by have := (HO2.out.lt z hz).1; have := HGL.out; omega))
        obtain ⟨f0, f1⟩ := bk_cells HO3.out HQ.out
        rw [HFF.out] at f0
        clear hx3 hk3 d0 d1
        go_wp2
        go_ret2
        exact .inl ⟨K, a', HM.out.1, HM.out.2.1, HM.out.2.2.1, HM.out.2.2.2, rfl, by rw [← putB_false]; exact HX3.out, ((HK.out.trans HK2.out).mono (fun _ _ h => h.elim)).trans HK3.out⟩

end Go.Proofs.Ytcbkfilhgeeebaa
