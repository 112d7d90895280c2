/- Memory: made. -/
import Derived.Test.YtjffdimlbppgcaaGreatMO
set_option linter.unusedVariables false
set_option linter.unusedSimpArgs false
namespace Go.Proofs.YtjffdimlbppgcaaGreat
open Go.RowKit Go.Own

theorem cut_cases (n : Int) : (decide (80 < n) = false ∧ sm n = n) ∨ (decide (80 < n) = true ∧ decide (n ≤ 1024) = false ∧ sm n = n) ∨ (decide (80 < n) = true ∧ decide (n ≤ 1024) = true ∧ sm n = 80) := by
  simp only [decide_eq_true_eq, decide_eq_false_iff_not]
  unfold sm
  split <;> omega
set_option maxRecDepth 100000 in
set_option maxHeartbeats 2000000 in
theorem made_none (n mk : Int) (la : Option Addr) (l c : Nat) (w : World) (hb : (sm n < 8 ∨ 1024 < sm n) ∨ (∃ m : Nat, sm n = m ∧ 8 ≤ m ∧ m ≤ 80 ∧ (mk < 0 ∨ (m : Int) < mk))) :
    Calls Tryz.prog 8 #[.int .i64 n, .int .i64 mk, .slice la l c] w fun e w' => e = .returned (.tuple #[.pointer none, .pointer none, .bool true]) ∧ Keep (fun _ => False) w w' := by
  have HA : Hid (∀ W, Calls Tryz.prog 17 #[.int .i64 (sm n), .int .i64 mk] W fun e w' => e = .returned (.tuple #[.pointer none, .int .i64 2]) ∧ Keep (fun _ => False) W w') := fun W => by
    rcases hb with hb | ⟨m, hm, h8, h80, hk⟩
    · exact mnew_bad (sm n) mk hb W
    · rw [hm]; exact mnew_mark m mk h8 (by omega) hk W
  have HX : Hid (∀ W, Calls Tryz.prog 18 #[.int .i64 (sm n), .int .i64 mk] W fun e w' => e = .returned (.tuple #[.pointer none, .int .i64 2]) ∧ Keep (fun _ => False) W w') := fun W => by
    rcases hb with hb | ⟨m, hm, h8, h80, hk⟩
    · exact xnew_bad (sm n) mk hb W
    · rw [hm]; exact xnew_mark m mk h8 (by omega) hk W
  rcases cut_cases n with ⟨t0, hs⟩ | ⟨t0, t1, hs⟩ | ⟨t0, t1, hs⟩
  all_goals
    rw [hs] at HA HX
    clear hs hb
    go_enter Tryz.func8, Tryz.ntmps8
    go_wp2_with fail
    refine (HA.out _).mono ?_
    rintro e w1 ⟨rfl, hk1⟩
    have HK1 := Lib.hid hk1
    clear hk1
    go_wp2_with fail
    refine (HX.out _).mono ?_
    rintro e w2 ⟨rfl, hk2⟩
    have HK2 : Hid (Keep (fun _ => False) w w2) := Keep.trans (Keep.trans (by (repeat (first | exact Keep.refl _ _ | exact Keep.refl _ _ | refine Keep.drew ?_ | refine Keep.drewN ?_ _ | refine Keep.alloc ?_ _ | refine Keep.setNew ?_ (by omega) _)); done) HK1.out) (Keep.trans (by (repeat (first | exact Keep.refl _ _ | exact Keep.refl _ _ | refine Keep.drew ?_ | refine Keep.drewN ?_ _ | refine Keep.alloc ?_ _ | refine Keep.setNew ?_ (by omega) _)); done) hk2)
    clear hk2
    go_wp2
    go_loop [13] (fun i => i = .int .i64 0) (fun _ => 0)
    case atStart => rfl
    case round =>
      obtain rfl := hrel
      go_wp2
      go_ret3
      exact ⟨rfl, HK2.out⟩
set_option maxRecDepth 100000 in
set_option maxHeartbeats 2000000 in
theorem made_any (n : Int) (m mk : Nat) (hs : sm n = m) (h0 : 8 ≤ m) (h1 : m ≤ 80) (hm : mk ≤ m) (la : Option Addr) (L : List A6) (c : Nat) (w : World) (hA : Acts6 w la L) :
    Calls Tryz.prog 8 #[.int .i64 n, .int .i64 (mk : Int), .slice la L.length c] w fun e w' => ∃ A : Ad, e = .returned (.tuple #[.pointer (some ⟨A.m, 0, none⟩), .pointer (some ⟨A.X, 0, none⟩), .bool true]) ∧ A.n = m ∧ LoopI w w' A := by
  have H1 := Lib.hid hA
  have HN : Hid (∀ W, Calls Tryz.prog 17 #[.int .i64 (sm n), .int .i64 (mk : Int)] W fun e w1 => ∃ m', e = .returned (.tuple #[.pointer (some ⟨m', 0, none⟩), .int .i64 0]) ∧ Keep (fun _ => False) W w1 ∧
      (∀ w2, Keep (fun _ => False) w1 w2 → Calls Tryz.prog 18 #[.int .i64 (sm n), .int .i64 (mk : Int)] w2 fun e w3 => ∃ A : Ad, A.m = m' ∧ A.n = m ∧ e = .returned (.tuple #[.pointer (some ⟨A.X, 0, none⟩), .int .i64 0]) ∧ A.B = W.heap.size ∧ BoE w3 A (P0 m) (P0 m) ∧ Keep (fun _ => False) w2 w3)) := fun W => by
    rw [hs]; exact new_both m mk h0 (by omega) hm W
  clear hA h0 h1 hm
  rcases cut_cases n with ⟨t0, hs2⟩ | ⟨t0, t1, hs2⟩ | ⟨t0, t1, hs2⟩
  all_goals
    rw [hs2] at HN
    clear hs hs2
    go_enter Tryz.func8, Tryz.ntmps8
    go_wp2_with fail
    refine (HN.out _).mono ?_
    rintro e w1 ⟨m', rfl, hk1, hx1⟩
    have HK1 := Lib.hid hk1
    have HX1 := Lib.hid hx1
    clear hk1 hx1
    go_wp2_with fail
    refine (HX1.out _ (by (repeat (first | exact Keep.refl _ _ | exact Keep.refl _ _ | refine Keep.drew ?_ | refine Keep.drewN ?_ _ | refine Keep.alloc ?_ _ | refine Keep.setNew ?_ (by omega) _)); done)).mono ?_
    rintro e w2 ⟨A, rfl, hn, rfl, hB, hb2, hk2⟩
    have HI2 : Hid (LoopI w w2 A) := ⟨hB, ⟨_, hb2⟩, Up.of (HK1.out.trans (Keep.trans (by (repeat (first | exact Keep.refl _ _ | exact Keep.refl _ _ | refine Keep.drew ?_ | refine Keep.drewN ?_ _ | refine Keep.alloc ?_ _ | refine Keep.setNew ?_ (by omega) _)); done) hk2))⟩
    have HAN := Lib.hid hn
    clear hn hB hb2 hk2
    go_wp2
    go_loopw [13] (fun i wr => ∃ k : Nat, k ≤ L.length ∧ k ≤ 40 ∧ i = .int .i64 (k : Int) ∧ LoopI w wr A) (fun i _ => 40 - (intOf i).toNat)
    case atStart => exact ⟨0, by omega, by omega, rfl, HI2.out⟩
    case round =>
      obtain ⟨k, hkA, hk40, rfl, hI⟩ := hrel
      have HI := Lib.hid hI
      clear hI HI2
      by_cases hlt : k < L.length ∧ k < 40
      · obtain ⟨hlt, hlt3⟩ := hlt
        obtain ⟨b, o, rfl, hc⟩ := (H1.out.up HI.out.up) k hlt
        obtain ⟨y, hy⟩ : ∃ y, L[k]'hlt = y := ⟨_, rfl⟩
        rw [hy] at hc
        obtain ⟨yk, yf, yo, yy, ys, yn⟩ := y
        obtain ⟨c0, c1, c2, c3, c4, c5, hf⟩ := hc
        have HF := Lib.hid hf
        have k0 : (0 : Int) ≤ k := Int.natCast_nonneg k
        have k1 : (k : Int) < L.length := Int.ofNat_lt.mpr hlt
        clear hf hy
        go_wp2_with (go_at_call 19; refine ((HI.out.keep0 (by (repeat (first | exact Keep.refl _ _ | exact Keep.refl _ _ | refine Keep.drew ?_ | refine Keep.drewN ?_ _ | refine Keep.alloc ?_ _ | refine Keep.setNew ?_ (by omega) _)); done)).do yk yf yo yy ys yn HF.out).mono ?_; rintro e w5 ⟨rfl, hI5⟩; have HI5 := Lib.hid hI5; clear hI5)
        go_roundw
        case rel => exact ⟨k + 1, by omega, by omega, by go_num, HI5.out⟩
        case measure => simp [intOf]; omega
      · have hkk : k = L.length ∨ (k < L.length ∧ k = 40) := by omega
        clear hlt
        rcases hkk with hkk | ⟨hkl, hkk⟩
        all_goals
          subst hkk
          go_wp2
          go_ret3
          exact ⟨A, rfl, HAN.out, HI.out⟩

end Go.Proofs.YtjffdimlbppgcaaGreat
