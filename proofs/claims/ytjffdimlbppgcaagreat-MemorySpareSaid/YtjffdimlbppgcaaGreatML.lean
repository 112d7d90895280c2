/- Memory: do: Drop; do. -/
import Derived.Test.YtjffdimlbppgcaaGreatMK
set_option linter.unusedVariables false
set_option linter.unusedSimpArgs false
namespace Go.Proofs.YtjffdimlbppgcaaGreat
open Go.RowKit Go.Own

set_option maxRecDepth 100000 in
set_option maxHeartbeats 4000000 in
theorem do_drop {w : World} {A : Ad} {P : PS} (f o y s n : Int) (hf : i64B f) (h : BoE w A P P) :
    Calls Tryz.prog 19 #[.pointer (some ⟨A.m, 0, none⟩), .pointer (some ⟨A.X, 0, none⟩), .agg #[.int .i64 4, .int .i64 f, .int .i64 o, .int .i64 y, .int .i64 s, .int .i64 n]] w (DoC w A) := by
  have HB := Lib.hid h
  clear h
  have HBX : Hid ((w.alloc (.cells #[.int .i64 4, .int .i64 f, .int .i64 o, .int .i64 y, .int .i64 s, .int .i64 n] 42)).heap[w.heap.size]? = some (.cells #[.int .i64 4, .int .i64 f, .int .i64 o, .int .i64 y, .int .i64 s, .int .i64 n] 42 (0, 0))) := heap_alloc_new w _
  have HK1 : Hid (Keep (fun _ => False) w (w.alloc (.cells #[.int .i64 4, .int .i64 f, .int .i64 o, .int .i64 y, .int .i64 s, .int .i64 n] 42))) := (Keep.refl _ _).alloc _
  by_cases hv : 0 ≤ o ∧ o ≤ 8 ∧ 0 ≤ f
  · obtain ⟨q, rfl⟩ := Int.eq_ofNat_of_zero_le hv.1
    obtain ⟨f, rfl⟩ := Int.eq_ofNat_of_zero_le hv.2.2
    have hq8 : q ≤ 8 := by omega
    have hfm : f ≤ 9223372036854775807 := by unfold i64B at hf; omega
    obtain ⟨o, ho⟩ : ∃ o : Int, (q : Int) = o := ⟨_, rfl⟩
    obtain ⟨p, hp⟩ : ∃ p, 2 ^ q = p := ⟨_, rfl⟩
    have hp1 := (pw q hq8).1
    rw [hp] at hp1
    obtain ⟨r, hr⟩ : ∃ r, f % p = r := ⟨_, rfl⟩
    have hrf : r ≤ f := by rw [← hr]; exact Nat.mod_le _ _
    have a7 : ¬ ((p : Int) = 0) := by omega
    have a8 : ¬ (p = 0) := by omega
    have a9 : wrap64 (r : Int) = (r : Int) := IntWalk.wrap64_in _ (by omega)
    have a9' : IntKind.i64.wrap (r : Int) = (r : Int) := IntWalk.i64_in _ (by omega)
    have a5 : (f : Int) % (p : Int) = (r : Int) := by rw [← Int.natCast_emod, hr]
    have a4 : Int.tmod (f : Int) (p : Int) = (r : Int) := (Int.tmod_eq_emod_of_nonneg (by omega)).trans a5
    obtain ⟨c, hc⟩ : ∃ c, f - r = c := ⟨_, rfl⟩
    have e1 : IntKind.i64.wrap ((f : Int) - (r : Int)) = (c : Int) := (IntWalk.i64_in _ (by omega)).trans (by omega)
    have t0 : decide ((0 : Int) ≤ (q : Int)) = true := by simp
    have t1 : decide ((q : Int) ≤ 8) = true := by simp; omega
    have t1n : decide (q ≤ 8) = true := by simp; omega
    have t2 : decide ((0 : Int) ≤ (f : Int)) = true := by simp
    have HSZ : Hid (∀ W, Calls Tryz.prog 16 #[.int .i64 (q : Int)] W fun e w' => e = .returned (.int .i64 (p : Int)) ∧ w' = W) := fun W => size_p q p hq8 hp W
    have HPD : Hid (∀ W, BoE W A P P → Calls Tryz.prog 23 #[.pointer (some ⟨A.m, 0, none⟩), .int .i64 (c : Int), .int .i64 (q : Int)] W (PrC W A P (DrR A P (c : Int) (q : Int)) 48 #[.pointer (some ⟨A.X, 0, none⟩), .int .i64 (c : Int), .int .i64 (q : Int)])) := fun W hb => p_drop (c : Int) (q : Int) (by unfold i64B; omega) hb
    clear hv hf hq8 hfm hp hp1 hr hrf hc ho
    go_enter Tryz.func19, Tryz.ntmps19
    go_wp2_with (go_at_call 16; refine (HSZ.out _).mono ?_; rintro e w3 ⟨rfl, rfl⟩)
    obtain ⟨b5, hb5⟩ : ∃ b5, w.heap.size = b5 := ⟨_, rfl⟩
    rw [hb5] at HBX ⊢
    generalize w.alloc (.cells #[.int .i64 4, .int .i64 (f : Int), .int .i64 (q : Int), .int .i64 y, .int .i64 s, .int .i64 n] 42) = w1 at HBX HK1 ⊢
    clear hb5
    have HB1 := Lib.hid (HB.out.keep0 HK1.out)
    have HD1 : Hid (D6 b5 4 (f : Int) (q : Int) y s n w1) := cells6 HBX.out
    obtain ⟨d0, d1, d2, d3, d4, d5⟩ := HD1.out
    go_region_held3 (fun w' => D6 b5 4 (f : Int) (q : Int) y s n w')
      (first | exact HD6.out | exact HD5.out | exact HD1.out)
      (first | (go_at_call 23; refine (HPD.out _ (HB1.out.keep0 (by (repeat (first | exact Keep.refl _ _ | exact Keep.refl _ _ | refine Keep.drew ?_ | refine Keep.drewN ?_ _ | refine Keep.alloc ?_ _ | refine Keep.setNew ?_ (by omega) _)); done))).mono ?_; rintro e w5 ⟨E, P1, rfl, hR, hb5, hk5, hx5⟩; obtain ⟨er, rfl⟩ := hR.form; have HX5 := Lib.hid hx5; have HB5 := Lib.hid hb5; have HK15 : Hid (KM A w1 w5) := (KM.of (by (repeat (first | exact Keep.refl _ _ | exact Keep.refl _ _ | refine Keep.drew ?_ | refine Keep.drewN ?_ _ | refine Keep.alloc ?_ _ | refine Keep.setNew ?_ (by omega) _)); done)).trans hk5; have HK5 : Hid (KM A w w5) := (KM.of HK1.out).trans HK15.out; have HBX5 := Lib.hid (km_block HK15.out HBX.out (by decide)); have HD5 : Hid (D6 b5 4 (f : Int) (q : Int) y s n w5) := cells6 HBX5.out; clear hR hb5 hk5 hx5)
             | (go_at_call 48; refine (HX5.out _ (HB5.out.keep0 (by (repeat (first | exact Keep.refl _ _ | exact Keep.refl _ _ | refine Keep.drew ?_ | refine Keep.drewN ?_ _ | refine Keep.alloc ?_ _ | refine Keep.setNew ?_ (by omega) _)); done))).mono ?_; rintro e w6 ⟨rfl, hb6, hk6⟩; have HB6 := Lib.hid hb6; have HK56 : Hid (KM A w5 w6) := (KM.of (by (repeat (first | exact Keep.refl _ _ | exact Keep.refl _ _ | refine Keep.drew ?_ | refine Keep.drewN ?_ _ | refine Keep.alloc ?_ _ | refine Keep.setNew ?_ (by omega) _)); done)).trans hk6; have HK6 : Hid (KM A w w6) := HK5.out.trans HK56.out; have HD6 : Hid (D6 b5 4 (f : Int) (q : Int) y s n w6) := cells6 (km_block HK56.out HBX5.out (by decide)); clear hb6 hk6))
    all_goals
      go_wp2
      go_ret
      exact ⟨rfl, P1, HB6.out, HK6.out⟩
  · have hcase : (decide (0 ≤ o) = false) ∨ (decide (0 ≤ o) = true ∧ decide (o ≤ 8) = false) ∨ (decide (0 ≤ o) = true ∧ decide (o ≤ 8) = true ∧ decide (0 ≤ f) = false) := by
      simp only [decide_eq_true_eq, decide_eq_false_iff_not]; omega
    have HPD : Hid (∀ W, BoE W A P P → Calls Tryz.prog 23 #[.pointer (some ⟨A.m, 0, none⟩), .int .i64 f, .int .i64 o] W (PrC W A P (DrR A P f o) 48 #[.pointer (some ⟨A.X, 0, none⟩), .int .i64 f, .int .i64 o])) := fun W hb => p_drop f o hf hb
    clear hv hf
    rcases hcase with t0 | ⟨t0, t1⟩ | ⟨t0, t1, t2⟩
    all_goals
      go_enter Tryz.func19, Tryz.ntmps19
      go_wp2
      obtain ⟨b5, hb5⟩ : ∃ b5, w.heap.size = b5 := ⟨_, rfl⟩
      rw [hb5] at HBX ⊢
      generalize w.alloc (.cells #[.int .i64 4, .int .i64 f, .int .i64 o, .int .i64 y, .int .i64 s, .int .i64 n] 42) = w1 at HBX HK1 ⊢
      clear hb5
      have HB1 := Lib.hid (HB.out.keep0 HK1.out)
      have HD1 : Hid (D6 b5 4 f o y s n w1) := cells6 HBX.out
      obtain ⟨d0, d1, d2, d3, d4, d5⟩ := HD1.out
      go_region_held3 (fun w' => D6 b5 4 f o y s n w')
        (first | exact HD6.out | exact HD5.out | exact HD1.out)
        (first | (go_at_call 23; refine (HPD.out _ (HB1.out.keep0 (by (repeat (first | exact Keep.refl _ _ | exact Keep.refl _ _ | refine Keep.drew ?_ | refine Keep.drewN ?_ _ | refine Keep.alloc ?_ _ | refine Keep.setNew ?_ (by omega) _)); done))).mono ?_; rintro e w5 ⟨E, P1, rfl, hR, hb5, hk5, hx5⟩; obtain ⟨er, rfl⟩ := hR.form; have HX5 := Lib.hid hx5; have HB5 := Lib.hid hb5; have HK15 : Hid (KM A w1 w5) := (KM.of (by (repeat (first | exact Keep.refl _ _ | exact Keep.refl _ _ | refine Keep.drew ?_ | refine Keep.drewN ?_ _ | refine Keep.alloc ?_ _ | refine Keep.setNew ?_ (by omega) _)); done)).trans hk5; have HK5 : Hid (KM A w w5) := (KM.of HK1.out).trans HK15.out; have HBX5 := Lib.hid (km_block HK15.out HBX.out (by decide)); have HD5 : Hid (D6 b5 4 f o y s n w5) := cells6 HBX5.out; clear hR hb5 hk5 hx5)
               | (go_at_call 48; refine (HX5.out _ (HB5.out.keep0 (by (repeat (first | exact Keep.refl _ _ | exact Keep.refl _ _ | refine Keep.drew ?_ | refine Keep.drewN ?_ _ | refine Keep.alloc ?_ _ | refine Keep.setNew ?_ (by omega) _)); done))).mono ?_; rintro e w6 ⟨rfl, hb6, hk6⟩; have HB6 := Lib.hid hb6; have HK56 : Hid (KM A w5 w6) := (KM.of (by (repeat (first | exact Keep.refl _ _ | exact Keep.refl _ _ | refine Keep.drew ?_ | refine Keep.drewN ?_ _ | refine Keep.alloc ?_ _ | refine Keep.setNew ?_ (by omega) _)); done)).trans hk6; have HK6 : Hid (KM A w w6) := HK5.out.trans HK56.out; have HD6 : Hid (D6 b5 4 f o y s n w6) := cells6 (km_block HK56.out HBX5.out (by decide)); clear hb6 hk6))
      all_goals
        go_wp2
        go_ret
        exact ⟨rfl, P1, HB6.out, HK6.out⟩

/-- Any call. -/
theorem do_any {w : World} {A : Ad} {P : PS} (K f o y s n : Int) (hf : i64B f) (h : BoE w A P P) :
    Calls Tryz.prog 19 #[.pointer (some ⟨A.m, 0, none⟩), .pointer (some ⟨A.X, 0, none⟩), .agg #[.int .i64 K, .int .i64 f, .int .i64 o, .int .i64 y, .int .i64 s, .int .i64 n]] w (DoC w A) := by
  by_cases h1 : K = 0 ∨ K = 1 ∨ K = 2
  · exact do_block K f o y s n h1 h
  by_cases h3 : K = 3
  · subst h3; exact do_at f o y s n hf h
  by_cases h4 : K = 4
  · subst h4; exact do_drop f o y s n hf h
  by_cases h5 : K = 5
  · subst h5; exact do_turn f o y s n h
  by_cases h6 : K = 6
  · subst h6; exact do_set f o y s n h
  by_cases h7 : K = 7
  · subst h7; exact do_store f o y s n h
  · exact do_one K f o y s n (by omega) h

end Go.Proofs.YtjffdimlbppgcaaGreat
