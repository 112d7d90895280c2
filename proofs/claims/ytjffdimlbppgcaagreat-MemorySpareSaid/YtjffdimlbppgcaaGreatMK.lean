/- Memory: do: Set, Drop, Store; do. -/
import Derived.Test.YtjffdimlbppgcaaGreatMJ
set_option linter.unusedVariables false
set_option linter.unusedSimpArgs false
namespace Go.Proofs.YtjffdimlbppgcaaGreat
open Go.RowKit Go.Own

set_option maxRecDepth 100000 in
set_option maxHeartbeats 4000000 in
theorem do_set {w : World} {A : Ad} {P : PS} (f o y s n : Int) (h : BoE w A P P) :
    Calls Tryz.prog 19 #[.pointer (some ⟨A.m, 0, none⟩), .pointer (some ⟨A.X, 0, none⟩), .agg #[.int .i64 6, .int .i64 f, .int .i64 o, .int .i64 y, .int .i64 s, .int .i64 n]] w (DoC w A) := by
  have HB := Lib.hid h
  clear h
  have HBX : Hid ((w.alloc (.cells #[.int .i64 6, .int .i64 f, .int .i64 o, .int .i64 y, .int .i64 s, .int .i64 n] 42)).heap[w.heap.size]? = some (.cells #[.int .i64 6, .int .i64 f, .int .i64 o, .int .i64 y, .int .i64 s, .int .i64 n] 42 (0, 0))) := heap_alloc_new w _
  have HK1 : Hid (Keep (fun _ => False) w (w.alloc (.cells #[.int .i64 6, .int .i64 f, .int .i64 o, .int .i64 y, .int .i64 s, .int .i64 n] 42))) := (Keep.refl _ _).alloc _
  go_enter Tryz.func19, Tryz.ntmps19
  go_wp2
  obtain ⟨b5, hb5⟩ : ∃ b5, w.heap.size = b5 := ⟨_, rfl⟩
  rw [hb5] at HBX ⊢
  generalize w.alloc (.cells #[.int .i64 6, .int .i64 f, .int .i64 o, .int .i64 y, .int .i64 s, .int .i64 n] 42) = w1 at HBX HK1 ⊢
  clear hb5
  have HB1 := Lib.hid (HB.out.keep0 HK1.out)
  have HD1 : Hid (D6 b5 6 f o y s n w1 ∧ w1.cell? ⟨A.X, 0, none⟩ = some (.pointer (some ⟨A.K, 0, none⟩))) := ⟨cells6 HBX.out, HB1.out.xc.1⟩
  obtain ⟨⟨d0, d1, d2, d3, d4, d5⟩, x0⟩ := HD1.out
  go_region_held3 (fun w' => D6 b5 6 f o y s n w' ∧ w'.cell? ⟨A.X, 0, none⟩ = some (.pointer (some ⟨A.K, 0, none⟩)))
    (first | exact HD6.out | exact HD5.out | exact HD1.out)
    (first | (go_at_call 51; refine (p_set f y (HB1.out.keep0 (by (repeat (first | exact Keep.refl _ _ | exact Keep.refl _ _ | refine Keep.drew ?_ | refine Keep.drewN ?_ _ | refine Keep.alloc ?_ _ | refine Keep.setNew ?_ (by omega) _)); done))).mono ?_; rintro e w5 ⟨E, P1, rfl, hR, hb5, hk5, hx5⟩; obtain ⟨er, rfl⟩ := hR.form; have HX5 := Lib.hid hx5; have HB5 := Lib.hid hb5; have HK15 : Hid (KM A w1 w5) := (KM.of (by (repeat (first | exact Keep.refl _ _ | exact Keep.refl _ _ | refine Keep.drew ?_ | refine Keep.drewN ?_ _ | refine Keep.alloc ?_ _ | refine Keep.setNew ?_ (by omega) _)); done)).trans hk5; have HK5 : Hid (KM A w w5) := (KM.of HK1.out).trans HK15.out; have HBX5 := Lib.hid (km_block HK15.out HBX.out (by decide)); have HD5 : Hid (D6 b5 6 f o y s n w5 ∧ w5.cell? ⟨A.X, 0, none⟩ = some (.pointer (some ⟨A.K, 0, none⟩))) := ⟨cells6 HBX5.out, HB5.out.xc.1⟩; clear hR hb5 hk5 hx5)
           | (go_at_call 52; refine (HX5.out _ (HB5.out.keep0 (by (repeat (first | exact Keep.refl _ _ | exact Keep.refl _ _ | refine Keep.drew ?_ | refine Keep.drewN ?_ _ | refine Keep.alloc ?_ _ | refine Keep.setNew ?_ (by omega) _)); done))).mono ?_; rintro e w6 ⟨rfl, hb6, hk6⟩; have HB6 := Lib.hid hb6; have HK56 : Hid (KM A w5 w6) := (KM.of (by (repeat (first | exact Keep.refl _ _ | exact Keep.refl _ _ | refine Keep.drew ?_ | refine Keep.drewN ?_ _ | refine Keep.alloc ?_ _ | refine Keep.setNew ?_ (by omega) _)); done)).trans hk6; have HK6 : Hid (KM A w w6) := HK5.out.trans HK56.out; have HD6 : Hid (D6 b5 6 f o y s n w6 ∧ w6.cell? ⟨A.X, 0, none⟩ = some (.pointer (some ⟨A.K, 0, none⟩))) := ⟨cells6 (km_block HK56.out HBX5.out (by decide)), HB6.out.xc.1⟩; clear hb6 hk6))
  all_goals
    go_wp2
    go_ret
    exact ⟨rfl, P1, HB6.out, HK6.out⟩
theorem i64_and7 (n : Int) : bits .and .i64 n 7 = n % 8 := by
  have h7 : (BitVec.ofInt 64 7).toNat = 2 ^ 3 - 1 := by decide
  have key : (BitVec.ofInt 64 n &&& BitVec.ofInt 64 7).toNat = (n % ((2 ^ 64 : Nat) : Int)).toNat % 2 ^ 3 := by
    rw [BitVec.toNat_and, BitVec.toNat_ofInt, h7, Nat.and_two_pow_sub_one_eq_mod]
  show IntKind.i64.wrap ((BitVec.ofInt 64 n &&& BitVec.ofInt 64 7).toNat : Nat) = n % 8
  rw [key, IntKind.wrap_i64]
  omega
theorem ram_any {w : World} {A : Ad} {P P' : PS} (h : BoE w A P P') : Calls Tryz.prog 13 #[.pointer (some ⟨A.m, 0, none⟩)] w fun e w' => e = .returned (.pointer (some ⟨A.r, 0, none⟩)) ∧ w' = w := by
  have m0 := h.xc.2.2
  clear h
  go_enter Tryz.func13, Tryz.ntmps13
  go_wp2
  go_ret
  exact ⟨rfl, rfl⟩
theorem st_facts (a n : Nat) (k : Int) (ha : a < n) (hn : n ≤ 1024) : ∃ (t z i v : Nat), 8 * i = z ∧ i < 8 * n ∧ v < 18446744073709551616 ∧ bits .and .i64 k 7 = (t : Int) ∧ (∃ u u8 : Int, IntKind.i64.wrap (64 * (a : Int)) = u ∧ IntKind.i64.wrap (8 * (t : Int)) = u8 ∧ IntKind.i64.wrap (u + u8) = (z : Int)) ∧ IntKind.u64.wrap k = (v : Int) := by
  have h0 := Int.emod_nonneg k (show (8 : Int) ≠ 0 by decide)
  have h1 := Int.emod_lt_of_pos k (show (0 : Int) < 8 by decide)
  have g0 := Int.emod_nonneg k (show (18446744073709551616 : Int) ≠ 0 by decide)
  have g1 := Int.emod_lt_of_pos k (show (0 : Int) < 18446744073709551616 by decide)
  refine ⟨(k % 8).toNat, 8 * (8 * a + (k % 8).toNat), 8 * a + (k % 8).toNat, (k % 18446744073709551616).toNat, rfl, by omega, by omega, ?_, ⟨_, _, IntWalk.i64_in _ (by omega), IntWalk.i64_in _ (by omega), (IntWalk.i64_in _ (by omega)).trans (by omega)⟩, ?_⟩
  · rw [i64_and7]; omega
  · rw [IntKind.wrap_u64]; omega
set_option maxRecDepth 100000 in
set_option maxHeartbeats 4000000 in
theorem do_store {w : World} {A : Ad} {P : PS} (f o y s n : Int) (h : BoE w A P P) :
    Calls Tryz.prog 19 #[.pointer (some ⟨A.m, 0, none⟩), .pointer (some ⟨A.X, 0, none⟩), .agg #[.int .i64 7, .int .i64 f, .int .i64 o, .int .i64 y, .int .i64 s, .int .i64 n]] w (DoC w A) := by
  have HB := Lib.hid h
  have hn : A.n ≤ 1024 := by obtain ⟨⟨N, iv, h1⟩, _⟩ := h; exact h1.mo.ra.n8.2
  have hcase : (f < 0) ∨ (0 ≤ f ∧ (A.n : Int) ≤ f) ∨ ∃ a : Nat, f = a ∧ a < A.n := by
    rcases Int.lt_or_le f 0 with h | h
    · exact .inl h
    · obtain ⟨i, rfl⟩ := Int.eq_ofNat_of_zero_le h
      by_cases hi : i < A.n
      · exact .inr (.inr ⟨i, rfl, hi⟩)
      · exact .inr (.inl ⟨h, by omega⟩)
  clear h
  have HBX : Hid ((w.alloc (.cells #[.int .i64 7, .int .i64 f, .int .i64 o, .int .i64 y, .int .i64 s, .int .i64 n] 42)).heap[w.heap.size]? = some (.cells #[.int .i64 7, .int .i64 f, .int .i64 o, .int .i64 y, .int .i64 s, .int .i64 n] 42 (0, 0))) := heap_alloc_new w _
  have HK1 : Hid (Keep (fun _ => False) w (w.alloc (.cells #[.int .i64 7, .int .i64 f, .int .i64 o, .int .i64 y, .int .i64 s, .int .i64 n] 42))) := (Keep.refl _ _).alloc _
  rcases hcase with hf | ⟨h0, hf⟩ | ⟨a, rfl, ha⟩
  · have t0 : decide (f < 0) = true := by simp; omega
    clear hf hn
    go_enter Tryz.func19, Tryz.ntmps19
    go_wp2
    obtain ⟨b5, hb5⟩ : ∃ b5, w.heap.size = b5 := ⟨_, rfl⟩
    rw [hb5] at HBX ⊢
    generalize w.alloc (.cells #[.int .i64 7, .int .i64 f, .int .i64 o, .int .i64 y, .int .i64 s, .int .i64 n] 42) = w1 at HBX HK1 ⊢
    clear hb5
    obtain ⟨d0, d1, d2, d3, d4, d5⟩ := cells6 HBX.out
    go_quiet (fail)
    go_wp2
    go_ret
    exact ⟨rfl, P, HB.out.keep0 (by (repeat (first | exact HK1.out | exact Keep.refl _ _ | refine Keep.drew ?_ | refine Keep.drewN ?_ _ | refine Keep.alloc ?_ _ | refine Keep.setNew ?_ (by omega) _)); done), KM.of (by (repeat (first | exact HK1.out | exact Keep.refl _ _ | refine Keep.drew ?_ | refine Keep.drewN ?_ _ | refine Keep.alloc ?_ _ | refine Keep.setNew ?_ (by omega) _)); done)⟩
  · have t0 : decide (f < 0) = false := by simp; omega
    have t1 : decide ((A.n : Int) ≤ f) = true := by simp; omega
    clear hf hn h0
    go_enter Tryz.func19, Tryz.ntmps19
    go_wp2
    obtain ⟨b5, hb5⟩ : ∃ b5, w.heap.size = b5 := ⟨_, rfl⟩
    rw [hb5] at HBX ⊢
    generalize w.alloc (.cells #[.int .i64 7, .int .i64 f, .int .i64 o, .int .i64 y, .int .i64 s, .int .i64 n] 42) = w1 at HBX HK1 ⊢
    clear hb5
    obtain ⟨d0, d1, d2, d3, d4, d5⟩ := cells6 HBX.out
    obtain ⟨g2, cap2, xi⟩ := (HB.out.keep0 HK1.out).xi
    go_quiet (fail)
    go_wp2
    go_ret
    exact ⟨rfl, P, HB.out.keep0 (by (repeat (first | exact HK1.out | exact Keep.refl _ _ | refine Keep.drew ?_ | refine Keep.drewN ?_ _ | refine Keep.alloc ?_ _ | refine Keep.setNew ?_ (by omega) _)); done), KM.of (by (repeat (first | exact HK1.out | exact Keep.refl _ _ | refine Keep.drew ?_ | refine Keep.drewN ?_ _ | refine Keep.alloc ?_ _ | refine Keep.setNew ?_ (by omega) _)); done)⟩
  · have t0 : decide ((a : Int) < 0) = false := by simp
    have t1 : decide ((A.n : Int) ≤ (a : Int)) = false := by simp; omega
    have t1n : decide (A.n ≤ a) = false := by simp; omega
    obtain ⟨t, z, i, v, hz, hi, hv, e1, ⟨u, u8, e2, e3, e4⟩, e5⟩ := st_facts a A.n n ha hn
    have HI := Lib.hid (And.intro hi hv)
    have HZ := Lib.hid hz
    have HP : Hid (∀ W, BoE W A P P → Calls Tryz.prog 53 #[.pointer (some ⟨A.r, 0, none⟩), .int .i64 (z : Int), .int .u64 (v : Int)] W (PrC W A P (fun E P1 => E = .int .i64 0 ∧ P1 = { P with W := setW P.W i v }) 54 #[.pointer (some ⟨A.W, 0, none⟩), .int .i64 (z : Int), .int .u64 (v : Int)])) := fun W hb => by
      have := p_store i v hi hv hb
      rw [hz] at this
      exact this
    clear ha hn hi hv hz
    go_enter Tryz.func19, Tryz.ntmps19
    go_wp2
    obtain ⟨b5, hb5⟩ : ∃ b5, w.heap.size = b5 := ⟨_, rfl⟩
    rw [hb5] at HBX ⊢
    generalize w.alloc (.cells #[.int .i64 7, .int .i64 (a : Int), .int .i64 o, .int .i64 y, .int .i64 s, .int .i64 n] 42) = w1 at HBX HK1 ⊢
    clear hb5
    obtain ⟨d0, d1, d2, d3, d4, d5⟩ := cells6 HBX.out
    obtain ⟨g2, cap2, xi⟩ := (HB.out.keep0 HK1.out).xi
    go_quiet (fail)
    go_wp2
    have HB1 := Lib.hid (HB.out.keep0 (w' := w1.drewN nq) (by (repeat (first | exact HK1.out | exact Keep.refl _ _ | refine Keep.drew ?_ | refine Keep.drewN ?_ _ | refine Keep.alloc ?_ _ | refine Keep.setNew ?_ (by omega) _)); done))
    have HBX1 : Hid ((w1.drewN nq).heap[b5]? = some (.cells #[.int .i64 7, .int .i64 (a : Int), .int .i64 o, .int .i64 y, .int .i64 s, .int .i64 n] 42 (0, 0))) := HBX.out
    have HK2 : Hid (KM A w (w1.drewN nq)) := KM.of (by (repeat (first | exact HK1.out | exact Keep.refl _ _ | refine Keep.drew ?_ | refine Keep.drewN ?_ _ | refine Keep.alloc ?_ _ | refine Keep.setNew ?_ (by omega) _)); done)
    clear HBX HK1 xi d0 d1 d2 d3 d4 d5
    generalize w1.drewN nq = w2 at HB1 HBX1 HK2 ⊢
    have HD1 : Hid (D6 b5 7 (a : Int) o y s n w2 ∧ w2.cell? ⟨A.X, 1, none⟩ = some (.pointer (some ⟨A.W, 0, none⟩))) := ⟨cells6 HBX1.out, HB1.out.xc.2.1⟩
    obtain ⟨⟨d0, d1, d2, d3, d4, d5⟩, x0⟩ := HD1.out
    go_region_held3 (fun w' => D6 b5 7 (a : Int) o y s n w' ∧ w'.cell? ⟨A.X, 1, none⟩ = some (.pointer (some ⟨A.W, 0, none⟩)))
      (first | exact HD6.out | exact HD5.out | exact HD4.out | exact HD1.out)
      (first | (go_at_call 13; refine (ram_any (HB1.out.keep0 (by (repeat (first | exact Keep.refl _ _ | exact Keep.refl _ _ | refine Keep.drew ?_ | refine Keep.drewN ?_ _ | refine Keep.alloc ?_ _ | refine Keep.setNew ?_ (by omega) _)); done))).mono ?_; rintro e w4 ⟨rfl, hw4⟩; have HK4 : Hid (Keep (fun _ => False) w2 w4) := (by rw [hw4]; exact (by (repeat (first | exact Keep.refl _ _ | exact Keep.refl _ _ | refine Keep.drew ?_ | refine Keep.drewN ?_ _ | refine Keep.alloc ?_ _ | refine Keep.setNew ?_ (by omega) _)); done)); have HBX4 := Lib.hid ((HK4.out.block b5 (block_lt HBX1.out) id).trans HBX1.out); have HB4 := Lib.hid (HB1.out.keep0 HK4.out); have HD4 : Hid (D6 b5 7 (a : Int) o y s n w4 ∧ w4.cell? ⟨A.X, 1, none⟩ = some (.pointer (some ⟨A.W, 0, none⟩))) := ⟨cells6 HBX4.out, HB4.out.xc.2.1⟩; clear hw4)
             | (go_at_call 53; refine (HP.out _ (HB4.out.keep0 (by (repeat (first | exact Keep.refl _ _ | exact Keep.refl _ _ | refine Keep.drew ?_ | refine Keep.drewN ?_ _ | refine Keep.alloc ?_ _ | refine Keep.setNew ?_ (by omega) _)); done))).mono ?_; rintro e w5 ⟨E, P1, rfl, ⟨rfl, hR⟩, hb5, hk5, hx5⟩; have HX5 := Lib.hid hx5; have HB5 := Lib.hid hb5; have HK45 : Hid (KM A w4 w5) := (KM.of (by (repeat (first | exact Keep.refl _ _ | exact Keep.refl _ _ | refine Keep.drew ?_ | refine Keep.drewN ?_ _ | refine Keep.alloc ?_ _ | refine Keep.setNew ?_ (by omega) _)); done)).trans hk5; have HK5 : Hid (KM A w w5) := (HK2.out.trans (KM.of HK4.out)).trans HK45.out; have HBX5 := Lib.hid (km_block HK45.out HBX4.out (by decide)); have HD5 : Hid (D6 b5 7 (a : Int) o y s n w5 ∧ w5.cell? ⟨A.X, 1, none⟩ = some (.pointer (some ⟨A.W, 0, none⟩))) := ⟨cells6 HBX5.out, HB5.out.xc.2.1⟩; clear hR hb5 hk5 hx5)
             | (go_at_call 54; refine (HX5.out _ (HB5.out.keep0 (by (repeat (first | exact Keep.refl _ _ | exact Keep.refl _ _ | refine Keep.drew ?_ | refine Keep.drewN ?_ _ | refine Keep.alloc ?_ _ | refine Keep.setNew ?_ (by omega) _)); done))).mono ?_; rintro e w6 ⟨rfl, hb6, hk6⟩; have HB6 := Lib.hid hb6; have HK56 : Hid (KM A w5 w6) := (KM.of (by (repeat (first | exact Keep.refl _ _ | exact Keep.refl _ _ | refine Keep.drew ?_ | refine Keep.drewN ?_ _ | refine Keep.alloc ?_ _ | refine Keep.setNew ?_ (by omega) _)); done)).trans hk6; have HK6 : Hid (KM A w w6) := HK5.out.trans HK56.out; have HD6 : Hid (D6 b5 7 (a : Int) o y s n w6 ∧ w6.cell? ⟨A.X, 1, none⟩ = some (.pointer (some ⟨A.W, 0, none⟩))) := ⟨cells6 (km_block HK56.out HBX5.out (by decide)), HB6.out.xc.2.1⟩; clear hb6 hk6))
    all_goals
      go_wp2
      go_ret
      exact ⟨rfl, P1, HB6.out, HK6.out⟩

end Go.Proofs.YtjffdimlbppgcaaGreat
