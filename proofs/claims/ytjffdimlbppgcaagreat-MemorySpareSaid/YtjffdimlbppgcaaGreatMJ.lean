/- Memory: do: the others. -/
import Derived.Test.YtjffdimlbppgcaaGreatMI
import Derived.Deep.RegionHeld3
set_option linter.unusedVariables false
set_option linter.unusedSimpArgs false
namespace Go.Proofs.YtjffdimlbppgcaaGreat
open Go.RowKit Go.Own

abbrev D6 (b : Nat) (K f o y s n : Int) (w : World) : Prop := w.cell? ⟨b, 0, none⟩ = some (.int .i64 K) ∧ w.cell? ⟨b, 1, none⟩ = some (.int .i64 f) ∧ w.cell? ⟨b, 2, none⟩ = some (.int .i64 o) ∧ w.cell? ⟨b, 3, none⟩ = some (.int .i64 y) ∧ w.cell? ⟨b, 4, none⟩ = some (.int .i64 s) ∧ w.cell? ⟨b, 5, none⟩ = some (.int .i64 n)
theorem BoE.x0 {w : World} {A : Ad} {P P' : PS} (h : BoE w A P P') : w.heap[A.X]? = none ∨ w.cell? ⟨A.X, 0, none⟩ = some (.pointer (some ⟨A.K, 0, none⟩)) := by
  obtain ⟨⟨N, iv, h1⟩, _⟩ := h
  exact .inr (cells4 h1.mx.hX).1
theorem BoE.xc {w : World} {A : Ad} {P P' : PS} (h : BoE w A P P') : w.cell? ⟨A.X, 0, none⟩ = some (.pointer (some ⟨A.K, 0, none⟩)) ∧ w.cell? ⟨A.X, 1, none⟩ = some (.pointer (some ⟨A.W, 0, none⟩)) ∧ w.cell? ⟨A.m, 0, none⟩ = some (.pointer (some ⟨A.r, 0, none⟩)) := by
  obtain ⟨⟨N, iv, h1⟩, _⟩ := h
  exact ⟨(cells4 h1.mx.hX).1, (cells4 h1.mx.hX).2.1, (cells4 h1.mo.hm).1⟩
theorem BoE.xi {w : World} {A : Ad} {P P' : PS} (h : BoE w A P P') : ∃ g2 cap2, w.cell? ⟨A.X, 2, none⟩ = some (.slice (some ⟨g2, 0, none⟩) A.n cap2) := by
  obtain ⟨⟨N, iv, h1⟩, _⟩ := h
  obtain ⟨g2, cap2, rfl, _⟩ := h1.mx.form
  exact ⟨g2, cap2, (cells4 h1.mx.hX).2.2.1⟩
theorem sw8 {K : Int} (h : K ≠ 0 ∧ K ≠ 1 ∧ K ≠ 2 ∧ K ≠ 3 ∧ K ≠ 4 ∧ K ≠ 5 ∧ K ≠ 6 ∧ K ≠ 7) : (K == 0) = false ∧ (K == 1) = false ∧ (K == 2) = false ∧ (K == 3) = false ∧ (K == 4) = false ∧ (K == 5) = false ∧ (K == 6) = false ∧ (K == 7) = false := by simp; exact h

set_option maxRecDepth 100000 in
set_option maxHeartbeats 4000000 in
theorem do_one {w : World} {A : Ad} {P : PS} (K f o y s n : Int) (hK : K ≠ 0 ∧ K ≠ 1 ∧ K ≠ 2 ∧ K ≠ 3 ∧ K ≠ 4 ∧ K ≠ 5 ∧ K ≠ 6 ∧ K ≠ 7) (h : BoE w A P P) :
    Calls Tryz.prog 19 #[.pointer (some ⟨A.m, 0, none⟩), .pointer (some ⟨A.X, 0, none⟩), .agg #[.int .i64 K, .int .i64 f, .int .i64 o, .int .i64 y, .int .i64 s, .int .i64 n]] w (DoC w A) := by
  have HB := Lib.hid h
  clear h
  obtain ⟨q0, q1, q2, q3, q4, q5, q6, q7⟩ := sw8 hK
  clear hK
  have HBX : Hid ((w.alloc (.cells #[.int .i64 K, .int .i64 f, .int .i64 o, .int .i64 y, .int .i64 s, .int .i64 n] 42)).heap[w.heap.size]? = some (.cells #[.int .i64 K, .int .i64 f, .int .i64 o, .int .i64 y, .int .i64 s, .int .i64 n] 42 (0, 0))) := heap_alloc_new w _
  have HK1 : Hid (Keep (fun _ => False) w (w.alloc (.cells #[.int .i64 K, .int .i64 f, .int .i64 o, .int .i64 y, .int .i64 s, .int .i64 n] 42))) := (Keep.refl _ _).alloc _
  go_enter Tryz.func19, Tryz.ntmps19
  go_wp2_with fail
  obtain ⟨b5, hb5⟩ : ∃ b5, w.heap.size = b5 := ⟨_, rfl⟩
  rw [hb5] at HBX ⊢
  generalize w.alloc (.cells #[.int .i64 K, .int .i64 f, .int .i64 o, .int .i64 y, .int .i64 s, .int .i64 n] 42) = w1 at HBX HK1 ⊢
  clear hb5
  have HB1 := Lib.hid (HB.out.keep0 HK1.out)
  refine (p_one y s (HB1.out.keep0 (by (repeat (first | exact Keep.refl _ _ | exact Keep.refl _ _ | refine Keep.drew ?_ | refine Keep.drewN ?_ _ | refine Keep.alloc ?_ _ | refine Keep.setNew ?_ (by omega) _)); done))).mono ?_
  rintro e w5 ⟨E, P1, rfl, hR, hb5, hk5, hx5⟩
  obtain ⟨ra, er, rfl⟩ := hR.form
  have HX5 := Lib.hid hx5
  have HB5 := Lib.hid hb5
  have HK5 : Hid (KM A w w5) := (KM.of HK1.out).trans ((KM.of (by (repeat (first | exact Keep.refl _ _ | exact Keep.refl _ _ | refine Keep.drew ?_ | refine Keep.drewN ?_ _ | refine Keep.alloc ?_ _ | refine Keep.setNew ?_ (by omega) _)); done)).trans hk5)
  have HBX5 := Lib.hid (km_block hk5 HBX.out (by decide))
  obtain ⟨d0, d1, d2, d3, d4, d5⟩ := cells6 HBX5.out
  clear hR hb5 hk5 hx5
  go_wp2_with (go_at_call 45; refine (HX5.out _ (HB5.out.keep0 (by (repeat (first | exact Keep.refl _ _ | exact Keep.refl _ _ | refine Keep.drew ?_ | refine Keep.drewN ?_ _ | refine Keep.alloc ?_ _ | refine Keep.setNew ?_ (by omega) _)); done))).mono ?_; rintro e w6 ⟨rfl, hb6, hk6⟩; have HB6 := Lib.hid hb6; have HK6 : Hid (KM A w w6) := HK5.out.trans ((KM.of (by (repeat (first | exact Keep.refl _ _ | exact Keep.refl _ _ | refine Keep.drew ?_ | refine Keep.drewN ?_ _ | refine Keep.alloc ?_ _ | refine Keep.setNew ?_ (by omega) _)); done)).trans hk6); clear hb6 hk6)
  go_ret
  exact ⟨rfl, P1, HB6.out, HK6.out⟩
set_option maxRecDepth 100000 in
set_option maxHeartbeats 4000000 in
theorem do_at {w : World} {A : Ad} {P : PS} (f o y s n : Int) (hf : i64B f) (h : BoE w A P P) :
    Calls Tryz.prog 19 #[.pointer (some ⟨A.m, 0, none⟩), .pointer (some ⟨A.X, 0, none⟩), .agg #[.int .i64 3, .int .i64 f, .int .i64 o, .int .i64 y, .int .i64 s, .int .i64 n]] w (DoC w A) := by
  have HB := Lib.hid h
  clear h
  have HBX : Hid ((w.alloc (.cells #[.int .i64 3, .int .i64 f, .int .i64 o, .int .i64 y, .int .i64 s, .int .i64 n] 42)).heap[w.heap.size]? = some (.cells #[.int .i64 3, .int .i64 f, .int .i64 o, .int .i64 y, .int .i64 s, .int .i64 n] 42 (0, 0))) := heap_alloc_new w _
  have HK1 : Hid (Keep (fun _ => False) w (w.alloc (.cells #[.int .i64 3, .int .i64 f, .int .i64 o, .int .i64 y, .int .i64 s, .int .i64 n] 42))) := (Keep.refl _ _).alloc _
  go_enter Tryz.func19, Tryz.ntmps19
  go_wp2
  obtain ⟨b5, hb5⟩ : ∃ b5, w.heap.size = b5 := ⟨_, rfl⟩
  rw [hb5] at HBX ⊢
  generalize w.alloc (.cells #[.int .i64 3, .int .i64 f, .int .i64 o, .int .i64 y, .int .i64 s, .int .i64 n] 42) = w1 at HBX HK1 ⊢
  clear hb5
  have HB1 := Lib.hid (HB.out.keep0 HK1.out)
  have HD1 : Hid (D6 b5 3 f o y s n w1) := cells6 HBX.out
  obtain ⟨d0, d1, d2, d3, d4, d5⟩ := HD1.out
  go_region_held3 (fun w' => D6 b5 3 f o y s n w')
    (first | exact HD6.out | exact HD5.out | exact HD1.out)
    (first | (go_at_call 46; refine (p_at f o s hf (HB1.out.keep0 (by (repeat (first | exact Keep.refl _ _ | exact Keep.refl _ _ | refine Keep.drew ?_ | refine Keep.drewN ?_ _ | refine Keep.alloc ?_ _ | refine Keep.setNew ?_ (by omega) _)); done))).mono ?_; rintro e w5 ⟨E, P1, rfl, hR, hb5, hk5, hx5⟩; obtain ⟨er, rfl⟩ := hR.form; have HX5 := Lib.hid hx5; have HB5 := Lib.hid hb5; have HK15 : Hid (KM A w1 w5) := (KM.of (by (repeat (first | exact Keep.refl _ _ | exact Keep.refl _ _ | refine Keep.drew ?_ | refine Keep.drewN ?_ _ | refine Keep.alloc ?_ _ | refine Keep.setNew ?_ (by omega) _)); done)).trans hk5; have HK5 : Hid (KM A w w5) := (KM.of HK1.out).trans HK15.out; have HBX5 := Lib.hid (km_block HK15.out HBX.out (by decide)); have HD5 : Hid (D6 b5 3 f o y s n w5) := cells6 HBX5.out; clear hR hb5 hk5 hx5)
           | (go_at_call 47; refine (HX5.out _ (HB5.out.keep0 (by (repeat (first | exact Keep.refl _ _ | exact Keep.refl _ _ | refine Keep.drew ?_ | refine Keep.drewN ?_ _ | refine Keep.alloc ?_ _ | refine Keep.setNew ?_ (by omega) _)); done))).mono ?_; rintro e w6 ⟨rfl, hb6, hk6⟩; have HB6 := Lib.hid hb6; have HK56 : Hid (KM A w5 w6) := (KM.of (by (repeat (first | exact Keep.refl _ _ | exact Keep.refl _ _ | refine Keep.drew ?_ | refine Keep.drewN ?_ _ | refine Keep.alloc ?_ _ | refine Keep.setNew ?_ (by omega) _)); done)).trans hk6; have HK6 : Hid (KM A w w6) := HK5.out.trans HK56.out; have HD6 : Hid (D6 b5 3 f o y s n w6) := cells6 (km_block HK56.out HBX5.out (by decide)); clear hb6 hk6))
  all_goals
    go_wp2
    go_ret
    exact ⟨rfl, P1, HB6.out, HK6.out⟩
set_option maxRecDepth 100000 in
set_option maxHeartbeats 4000000 in
theorem do_turn {w : World} {A : Ad} {P : PS} (f o y s n : Int) (h : BoE w A P P) :
    Calls Tryz.prog 19 #[.pointer (some ⟨A.m, 0, none⟩), .pointer (some ⟨A.X, 0, none⟩), .agg #[.int .i64 5, .int .i64 f, .int .i64 o, .int .i64 y, .int .i64 s, .int .i64 n]] w (DoC w A) := by
  have HB := Lib.hid h
  clear h
  have HBX : Hid ((w.alloc (.cells #[.int .i64 5, .int .i64 f, .int .i64 o, .int .i64 y, .int .i64 s, .int .i64 n] 42)).heap[w.heap.size]? = some (.cells #[.int .i64 5, .int .i64 f, .int .i64 o, .int .i64 y, .int .i64 s, .int .i64 n] 42 (0, 0))) := heap_alloc_new w _
  have HK1 : Hid (Keep (fun _ => False) w (w.alloc (.cells #[.int .i64 5, .int .i64 f, .int .i64 o, .int .i64 y, .int .i64 s, .int .i64 n] 42))) := (Keep.refl _ _).alloc _
  go_enter Tryz.func19, Tryz.ntmps19
  go_wp2
  obtain ⟨b5, hb5⟩ : ∃ b5, w.heap.size = b5 := ⟨_, rfl⟩
  rw [hb5] at HBX ⊢
  generalize w.alloc (.cells #[.int .i64 5, .int .i64 f, .int .i64 o, .int .i64 y, .int .i64 s, .int .i64 n] 42) = w1 at HBX HK1 ⊢
  clear hb5
  have HB1 := Lib.hid (HB.out.keep0 HK1.out)
  have HD1 : Hid (D6 b5 5 f o y s n w1) := cells6 HBX.out
  obtain ⟨d0, d1, d2, d3, d4, d5⟩ := HD1.out
  go_region_held3 (fun w' => D6 b5 5 f o y s n w')
    (first | exact HD6.out | exact HD5.out | exact HD1.out)
    (first | (go_at_call 49; refine (p_turn f n y s (HB1.out.keep0 (by (repeat (first | exact Keep.refl _ _ | exact Keep.refl _ _ | refine Keep.drew ?_ | refine Keep.drewN ?_ _ | refine Keep.alloc ?_ _ | refine Keep.setNew ?_ (by omega) _)); done))).mono ?_; rintro e w5 ⟨E, P1, rfl, hR, hb5, hk5, hx5⟩; obtain ⟨er, rfl⟩ := hR.form; have HX5 := Lib.hid hx5; have HB5 := Lib.hid hb5; have HK15 : Hid (KM A w1 w5) := (KM.of (by (repeat (first | exact Keep.refl _ _ | exact Keep.refl _ _ | refine Keep.drew ?_ | refine Keep.drewN ?_ _ | refine Keep.alloc ?_ _ | refine Keep.setNew ?_ (by omega) _)); done)).trans hk5; have HK5 : Hid (KM A w w5) := (KM.of HK1.out).trans HK15.out; have HBX5 := Lib.hid (km_block HK15.out HBX.out (by decide)); have HD5 : Hid (D6 b5 5 f o y s n w5) := cells6 HBX5.out; clear hR hb5 hk5 hx5)
           | (go_at_call 50; refine (HX5.out _ (HB5.out.keep0 (by (repeat (first | exact Keep.refl _ _ | exact Keep.refl _ _ | refine Keep.drew ?_ | refine Keep.drewN ?_ _ | refine Keep.alloc ?_ _ | refine Keep.setNew ?_ (by omega) _)); done))).mono ?_; rintro e w6 ⟨rfl, hb6, hk6⟩; have HB6 := Lib.hid hb6; have HK56 : Hid (KM A w5 w6) := (KM.of (by (repeat (first | exact Keep.refl _ _ | exact Keep.refl _ _ | refine Keep.drew ?_ | refine Keep.drewN ?_ _ | refine Keep.alloc ?_ _ | refine Keep.setNew ?_ (by omega) _)); done)).trans hk6; have HK6 : Hid (KM A w w6) := HK5.out.trans HK56.out; have HD6 : Hid (D6 b5 5 f o y s n w6) := cells6 (km_block HK56.out HBX5.out (by decide)); clear hb6 hk6))
  all_goals
    go_wp2
    go_ret
    exact ⟨rfl, P1, HB6.out, HK6.out⟩

end Go.Proofs.YtjffdimlbppgcaaGreat
