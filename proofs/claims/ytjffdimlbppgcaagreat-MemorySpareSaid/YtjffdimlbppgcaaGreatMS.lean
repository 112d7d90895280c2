/- Memory: MemoryRight, the walk. -/
import Derived.Test.YtjffdimlbppgcaaGreatMR
set_option linter.unusedVariables false
set_option linter.unusedSimpArgs false
namespace Go.Proofs.YtjffdimlbppgcaaGreat
open Go.RowKit Go.Own

theorem awake_k (w : World) : Calls Tryz.prog 9 #[] w fun e w' => e = .returned (.bool true) ∧ Keep (fun _ => False) w w' := by
  refine (awake_any w).mono ?_
  rintro e w' ⟨rfl, hk⟩
  exact ⟨rfl, hk.mono fun z h1 h2 => by omega⟩
theorem cnt_list {F : Nat → Bool} : ∀ {n : Nat} {L : List Int}, L.length = n → (∀ i, i < n → (F i = true ↔ gi L i = 0)) → L.count 0 = cnt F n
  | 0, L, hl, _ => by
    have : L = [] := List.eq_nil_of_length_eq_zero hl
    subst this; simp [cnt]
  | n + 1, L, hl, h => by
    have hlt : n < L.length := by omega
    have e : L = L.take n ++ [gi L n] := by
      have h1 := List.take_append_drop n L
      rw [List.drop_eq_getElem_cons hlt, List.drop_eq_nil_of_le (by omega)] at h1
      rw [gi_eq hlt]; exact h1.symm
    have hlen : (L.take n).length = n := by simp; omega
    have ih := cnt_list (F := F) hlen (fun i hi => by
      rw [h i (by omega)]
      have : gi (L.take n) i = gi L i := by simp [gi, hi]
      rw [this])
    have e2 : L.count 0 = (L.take n).count 0 + (if gi L n = 0 then 1 else 0) := by
      have h9 := congrArg (List.count (0 : Int)) e
      rw [List.count_append] at h9
      rw [h9]
      simp [List.count_singleton]
    have e3 : cnt F (n + 1) = cnt F n + (if F n = true then 1 else 0) := by
      unfold cnt; rw [List.range_succ, List.countP_append, List.countP_singleton]
    rw [e2, e3, ih]
    have := h n (by omega)
    by_cases hF : F n = true
    · rw [if_pos hF, if_pos (this.mp hF)]
    · rw [if_neg hF, if_neg (fun e => hF (this.mpr e))]
theorem countF_zero {n : Nat} {P : PS} (h : Lk n P) : Fr.countF P.L 0 = ((cnt P.F n : Nat) : Int) := by
  have e : Fr.countF P.L 0 = (P.L.count 0 : Int) := by
    unfold Fr.countF
    rw [if_pos (by decide)]
    rfl
  rw [e, cnt_list h.ln h.fr]
theorem nm_cases (n mk : Int) : (n < 8 ∨ 1024 < n) ∨ (∃ m : Nat, n = m ∧ 8 ≤ m ∧ m ≤ 1024 ∧ (mk < 0 ∨ (m : Int) < mk)) ∨ ∃ m k : Nat, n = m ∧ 8 ≤ m ∧ m ≤ 1024 ∧ mk = k ∧ k ≤ m := by
  by_cases h1 : n < 8 ∨ 1024 < n
  · exact .inl h1
  · by_cases h : mk < 0 ∨ n < mk
    · exact .inr (.inl ⟨n.toNat, by omega, by omega, by omega, by omega⟩)
    · exact .inr (.inr ⟨n.toNat, mk.toNat, by omega, by omega, by omega, by omega, by omega⟩)
set_option maxRecDepth 100000 in
set_option maxHeartbeats 4000000 in
theorem right_walk (n mk : Int) (la : Option Addr) (l c : Nat) (w : World) (hr : RowsAt w la l [.int .i64, .int .i64, .int .i64, .int .i64, .int .i64, .int .i64]) :
    Calls Tryz.prog 5 #[.int .i64 n, .int .i64 mk, .slice la l c] w fun e w' => e = .returned (.bool true) ∧ Below w.heap.size w w' := by
  obtain ⟨L, rfl, hA⟩ := acts6_of_rows hr
  have H1 := Lib.hid hA
  clear hA hr
  have hcase : ((n < 8 ∨ 1024 < n) ∨ (∃ m : Nat, n = m ∧ 8 ≤ m ∧ m ≤ 1024 ∧ (mk < 0 ∨ (m : Int) < mk))) ∨ ∃ m k : Nat, n = m ∧ 8 ≤ m ∧ m ≤ 1024 ∧ mk = k ∧ k ≤ m := by
    rcases nm_cases n mk with h | h | h
    · exact .inl (.inl h)
    · exact .inl (.inr h)
    · exact .inr h
  rcases hcase with hb | ⟨m, k, rfl, h8, h1, rfl, hm⟩
  · have HA : Hid (∀ W, Calls Tryz.prog 17 #[.int .i64 n, .int .i64 mk] W fun e w' => e = .returned (.tuple #[.pointer none, .int .i64 2]) ∧ Keep (fun _ => False) W w') := fun W => by
      rcases hb with hb | ⟨m, rfl, h8, h80, hk⟩
      · exact mnew_bad n mk hb W
      · exact mnew_mark m mk h8 h80 hk W
    have HX : Hid (∀ W, Calls Tryz.prog 18 #[.int .i64 n, .int .i64 mk] W fun e w' => e = .returned (.tuple #[.pointer none, .int .i64 2]) ∧ Keep (fun _ => False) W w') := fun W => by
      rcases hb with hb | ⟨m, rfl, h8, h80, hk⟩
      · exact xnew_bad n mk hb W
      · exact xnew_mark m mk h8 h80 hk W
    clear hb
    go_enter Tryz.func5, Tryz.ntmps5
    go_wp2_with fail
    refine (HA.out _).mono ?_
    rintro e w1 ⟨rfl, hk1⟩
    have HK1 : Hid (Keep (fun _ => False) w w1) := Keep.trans (by (repeat (first | exact Keep.refl _ _ | exact Keep.refl _ _ | refine Keep.drew ?_ | refine Keep.drewN ?_ _ | refine Keep.alloc ?_ _ | refine Keep.setNew ?_ (by omega) _)); done) hk1
    clear hk1
    go_wp2_with fail
    refine (HX.out _).mono ?_
    rintro e w2 ⟨rfl, hk2⟩
    have HK2 : Hid (Keep (fun _ => False) w w2) := HK1.out.trans (Keep.trans (by (repeat (first | exact Keep.refl _ _ | exact Keep.refl _ _ | refine Keep.drew ?_ | refine Keep.drewN ?_ _ | refine Keep.alloc ?_ _ | refine Keep.setNew ?_ (by omega) _)); done) hk2)
    clear hk2
    go_wp2_with fail
    refine (awake_k _).mono ?_
    rintro e w3 ⟨rfl, hk3⟩
    have HK3 : Hid (Keep (fun _ => False) w w3) := HK2.out.trans (Keep.trans (by (repeat (first | exact Keep.refl _ _ | exact Keep.refl _ _ | refine Keep.drew ?_ | refine Keep.drewN ?_ _ | refine Keep.alloc ?_ _ | refine Keep.setNew ?_ (by omega) _)); done) hk3)
    clear hk3
    go_wp2_with fail
    refine (awake_k _).mono ?_
    rintro e w4 ⟨rfl, hk4⟩
    have HK4 : Hid (Keep (fun _ => False) w w4) := HK3.out.trans (Keep.trans (by (repeat (first | exact Keep.refl _ _ | exact Keep.refl _ _ | refine Keep.drew ?_ | refine Keep.drewN ?_ _ | refine Keep.alloc ?_ _ | refine Keep.setNew ?_ (by omega) _)); done) hk4)
    clear hk4
    go_wp2
    go_ret
    exact ⟨rfl, (Up.of HK4.out).below⟩
  · have HN : Hid (∀ W, Calls Tryz.prog 17 #[.int .i64 (m : Int), .int .i64 (k : Int)] W fun e w1 => ∃ m', e = .returned (.tuple #[.pointer (some ⟨m', 0, none⟩), .int .i64 0]) ∧ Keep (fun _ => False) W w1 ∧
      (∀ w2, Keep (fun _ => False) w1 w2 → Calls Tryz.prog 18 #[.int .i64 (m : Int), .int .i64 (k : Int)] w2 fun e w3 => ∃ A : Ad, A.m = m' ∧ A.n = m ∧ e = .returned (.tuple #[.pointer (some ⟨A.X, 0, none⟩), .int .i64 0]) ∧ A.B = W.heap.size ∧ BoE w3 A (P0 m) (P0 m) ∧ Keep (fun _ => False) w2 w3)) := fun W => new_both m k h8 h1 hm W
    clear h8 h1 hm
    go_enter Tryz.func5, Tryz.ntmps5
    go_wp2_with fail
    refine (HN.out _).mono ?_
    rintro e w1 ⟨m', rfl, hk1, hx1⟩
    have HK1 := Lib.hid hk1
    have HX1 := Lib.hid hx1
    clear hk1 hx1
    go_wp2_with fail
    refine (HX1.out _ (by (repeat (first | exact Keep.refl _ _ | exact Keep.refl _ _ | refine Keep.drew ?_ | refine Keep.drewN ?_ _ | refine Keep.alloc ?_ _ | refine Keep.setNew ?_ (by omega) _)); done)).mono ?_
    rintro e w2 ⟨A, rfl, hn, rfl, hB, hb2, hk2⟩
    have HI2 : Hid (LoopI w w2 A) := ⟨hB, ⟨_, hb2⟩, Up.of (HK1.out.trans (Keep.trans (by (repeat (first | exact Keep.refl _ _ | exact Keep.refl _ _ | refine Keep.drew ?_ | refine Keep.drewN ?_ _ | refine Keep.alloc ?_ _ | refine Keep.setNew ?_ (by omega) _)); done) hk2))⟩
    clear hn hB hb2 hk2
    go_wp2_with fail
    refine (awake_k _).mono ?_
    rintro e w3 ⟨rfl, hk3⟩
    have HI3 : Hid (LoopI w w3 A) := HI2.out.keep0 (Keep.trans (by (repeat (first | exact Keep.refl _ _ | exact Keep.refl _ _ | refine Keep.drew ?_ | refine Keep.drewN ?_ _ | refine Keep.alloc ?_ _ | refine Keep.setNew ?_ (by omega) _)); done) hk3)
    clear hk3 HI2
    go_wp2
    go_loopw [11] (fun i wr => ∃ k : Nat, k ≤ L.length ∧ k ≤ 30 ∧ i = .int .i64 (k : Int) ∧ LoopI w wr A) (fun i _ => 30 - (intOf i).toNat)
    case atStart => exact ⟨0, by omega, by omega, rfl, HI3.out⟩
    case round =>
      obtain ⟨k, hkA, hk40, rfl, hI⟩ := hrel
      have HI := Lib.hid hI
      clear hI HI3
      by_cases hlt : k < L.length ∧ k < 30
      · obtain ⟨hlt, hlt3⟩ := hlt
        obtain ⟨b, o, rfl, hc⟩ := (H1.out.up HI.out.up) k hlt
        obtain ⟨y, hy⟩ : ∃ y, L[k]'hlt = y := ⟨_, rfl⟩
        rw [hy] at hc
        obtain ⟨yk, yf, yo, yy, ys, yn⟩ := y
        obtain ⟨c0, c1, c2, c3, c4, c5, hf⟩ := hc
        have HF := Lib.hid hf
        have k0 : (0 : Int) ≤ k := Int.natCast_nonneg k
        have k1 : (k : Int) < L.length := Int.ofNat_lt.mpr hlt
        clear hf hy
        go_wp2_with fail
        refine ((HI.out.keep0 (by (repeat (first | exact Keep.refl _ _ | exact Keep.refl _ _ | refine Keep.drew ?_ | refine Keep.drewN ?_ _ | refine Keep.alloc ?_ _ | refine Keep.setNew ?_ (by omega) _)); done)).do yk yf yo yy ys yn HF.out).mono ?_
        rintro e w5 ⟨rfl, hI5⟩
        have HI5 := Lib.hid hI5
        obtain ⟨hB, ⟨P, ⟨N, iv, hb⟩, hl, _⟩, hu⟩ := hI5
        have HM := Lib.hid hb.mo
        have HL := Lib.hid hl
        have HCF : Hid (Fr.countF P.L 0 = ((cnt P.F A.n : Nat) : Int)) := countF_zero hl
        clear hB hb hl hu c0 c1 c2 c3 c4 c5
        go_wp2_with (first | (go_at_call 20; refine (right_any (HM.out.keep0 (by (repeat (first | exact Keep.refl _ _ | exact Keep.refl _ _ | refine Keep.drew ?_ | refine Keep.drewN ?_ _ | refine Keep.alloc ?_ _ | refine Keep.setNew ?_ (by omega) _)); done)) HL.out).mono ?_; rintro e w6 ⟨rfl, hk6⟩; have HK6 : Hid (Keep (fun _ => False) w5 w6) := Keep.trans (by (repeat (first | exact Keep.refl _ _ | exact Keep.refl _ _ | refine Keep.drew ?_ | refine Keep.drewN ?_ _ | refine Keep.alloc ?_ _ | refine Keep.setNew ?_ (by omega) _)); done) hk6; clear hk6)
                           | (go_at_call 21; refine (mcount_any 0 (HM.out.keep0 (Keep.trans HK6.out (by (repeat (first | exact Keep.refl _ _ | exact Keep.refl _ _ | refine Keep.drew ?_ | refine Keep.drewN ?_ _ | refine Keep.alloc ?_ _ | refine Keep.setNew ?_ (by omega) _)); done)))).mono ?_; rw [HCF.out]; rintro e w7 ⟨rfl, hk7⟩; have HK7 : Hid (Keep (fun _ => False) w5 w7) := Keep.trans (Keep.trans HK6.out (by (repeat (first | exact Keep.refl _ _ | exact Keep.refl _ _ | refine Keep.drew ?_ | refine Keep.drewN ?_ _ | refine Keep.alloc ?_ _ | refine Keep.setNew ?_ (by omega) _)); done)) hk7; clear hk7)
                           | (go_at_call 22; refine (mfree_any (HM.out.keep0 (Keep.trans HK7.out (by (repeat (first | exact Keep.refl _ _ | exact Keep.refl _ _ | refine Keep.drew ?_ | refine Keep.drewN ?_ _ | refine Keep.alloc ?_ _ | refine Keep.setNew ?_ (by omega) _)); done)))).mono ?_; rintro e w8 ⟨rfl, hk8⟩; have HK8 : Hid (Keep (fun _ => False) w5 w8) := Keep.trans (Keep.trans HK7.out (by (repeat (first | exact Keep.refl _ _ | exact Keep.refl _ _ | refine Keep.drew ?_ | refine Keep.drewN ?_ _ | refine Keep.alloc ?_ _ | refine Keep.setNew ?_ (by omega) _)); done)) hk8; clear hk8))
        go_roundw
        case rel => exact ⟨k + 1, by omega, by omega, by go_num, HI5.out.keep0 (by (repeat (first | exact HK8.out | exact Keep.refl _ _ | refine Keep.drew ?_ | refine Keep.drewN ?_ _ | refine Keep.alloc ?_ _ | refine Keep.setNew ?_ (by omega) _)); done)⟩
        case measure => simp [intOf]; omega
      · have hkk : k = L.length ∨ (k < L.length ∧ k = 30) := by omega
        clear hlt
        rcases hkk with hkk | ⟨hkl, hkk⟩
        all_goals
          subst hkk
          go_wp2
          go_ret
          exact ⟨rfl, HI.out.up.below⟩

end Go.Proofs.YtjffdimlbppgcaaGreat
