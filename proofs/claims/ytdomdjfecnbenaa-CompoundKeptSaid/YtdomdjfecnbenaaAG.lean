/- Compounds: one call of both; some calls. -/
import Derived.Test.YtdomdjfecnbenaaAF
import Derived.Test.YtdomdjfecnbenaaI
import Derived.Test.YtdomdjfecnbenaaArgs
set_option linter.unusedVariables false
set_option linter.unusedSimpArgs false
namespace Go.Proofs.Ytdomdjfecnbenaa
open Go.RowKit Go.Own

set_option maxHeartbeats 1000000 in
theorem numbers_eq (B C : Nat) (v u : Value) (X : List Int) (w : World) (hv : OwnL inE w B 3 v X) (hu : OwnL inE w C 3 u X) (hl : X.length ≤ 1000000) :
    Calls Try.prog 24 #[v, u] w fun e w' => e = .returned (.bool true) ∧ Keep (fun _ => False) w w' := by
  by_cases hn : X = []
  · subst hn
    obtain ⟨a1, c1, rfl, -⟩ := hv.slice
    obtain ⟨a2, c2, rfl, -⟩ := hu.slice
    go_enter Try.func24, Try.ntmps24
    go_wp2
    refine wp_loop_once ?_
    go_wp2
    go_ret
    exact ⟨rfl, Keep.refl _ _⟩
  · exact numbers_same B C v u X w hv hu hl hn

theorem sF {w W : World} {b : Nat} {x : Value} {S : Nat → Prop} (K : Keep S w W) (hb : ¬ S b) (x1 : w.cell? ⟨b, 1, none⟩ = some x) : W.cell? ⟨b, 1, none⟩ = some x := (K.cell (block_lt_cell x1) hb).trans x1

def DoC (B p q n : Nat) (w : World) (e : Ending) (w' : World) : Prop := e = .returned (.bool true) ∧ KB B w w' ∧ Two w' B p q (n + 1)

set_option maxRecDepth 100000 in
set_option maxHeartbeats 4000000 in
theorem do_any {w : World} {B p q n : Nat} (K f : Int) (h : Two w B p q n) (hn : n < 100) (hB : B ≤ w.heap.size) (hf : f < 9223372036854775808) :
    Calls Try.prog 31 #[.pointer (some ⟨p, 0, none⟩), .pointer (some ⟨q, 0, none⟩), .agg #[.int .i64 K, .int .i64 f]] w (DoC B p q n w) := by
  have KW : Hid (Keep (fun _ => False) w (w.alloc (.cells #[.int .i64 K, .int .i64 f] 57))) := (Keep.refl _ _).alloc _
  obtain ⟨x0, x1⟩ := cells2 (heap_alloc_new w (.cells #[.int .i64 K, .int .i64 f] 57))
  have HB0 : Hid ((w.alloc (.cells #[.int .i64 K, .int .i64 f] 57)).heap[w.heap.size]? = some (.cells #[.int .i64 K, .int .i64 f] 57 (0, 0))) := heap_alloc_new w _
  have hB1 : B ≤ (w.alloc (.cells #[.int .i64 K, .int .i64 f] 57)).heap.size := by have := KW.out.size; omega
  have H1 := Lib.hid (h.keep0 KW.out)
  clear h
  by_cases k1 : K = 0 ∨ K = 1
  · obtain ⟨E, hE⟩ := make_pair (H1.out.keep0 (Keep.drew (Keep.refl _ _))) hn f hB1
    have HE := Lib.hid hE
    clear hE
    rcases k1 with rfl | rfl
    all_goals
      go_enter Try.func31, Try.ntmps31
      go_wp2
      go_region_held3 (fun w' => w'.cell? ⟨w.heap.size, 1, none⟩ = some (.int .i64 f))
        (first | exact x1 | exact (cells2 HC4.out).2 | exact (cells2 HC5.out).2)
        (first | (go_at_call 10; refine HE.out.mono ?_; rintro e w4 ⟨rfl, hk4, hx4⟩; have HC4 := Lib.hid (hk4.other HB0.out (by unfold My; decide)); have HK4 := Lib.hid hk4; have HX4 := Lib.hid hx4; clear hk4 hx4) | (go_at_call 41; refine (HX4.out _ (by (repeat (first | exact Keep.refl _ _ | exact Keep.refl _ _ | refine Keep.drew ?_ | refine Keep.drewN ?_ _ | refine Keep.alloc ?_ _ | refine Keep.setNew ?_ (by omega) _)); done)).mono ?_; rintro e w5 ⟨rfl, hk5, ht5⟩; have HC5 := Lib.hid (hk5.other HC4.out (by unfold My; decide)); have HK5 := Lib.hid hk5; have HT5 := Lib.hid ht5; clear hk5 ht5))
      go_wp2
      go_ret
      exact ⟨rfl, (KB.of (by (repeat (first | exact KW.out | exact Keep.refl _ _ | refine Keep.drew ?_ | refine Keep.drewN ?_ _ | refine Keep.alloc ?_ _ | refine Keep.setNew ?_ (by omega) _)); done)).trans (HK4.out.trans HK5.out), HT5.out⟩
  by_cases k2 : K = 2 ∨ K = 3 ∨ K = 4 ∨ K = 5
  · obtain ⟨P, E, hE⟩ := lose_pair H1.out hn f hf hB1
    have HE := Lib.hid hE
    clear hE k1
    rcases k2 with rfl | rfl | rfl | rfl
    all_goals
      go_enter Try.func31, Try.ntmps31
      go_wp2_with (first | (go_at_call 11; refine HE.out.mono ?_; rintro e w4 ⟨rfl, hk4, hx4⟩; have HC4 := Lib.hid (hk4.other HB0.out (by unfold My; decide)); have HK4 := Lib.hid hk4; have HX4 := Lib.hid hx4; have y1 := (cells2 HC4.out).2; clear hk4 hx4) | (go_at_call 42; refine (HX4.out _ (by (repeat (first | exact Keep.refl _ _ | exact Keep.refl _ _ | refine Keep.drew ?_ | refine Keep.drewN ?_ _ | refine Keep.alloc ?_ _ | refine Keep.setNew ?_ (by omega) _)); done)).mono ?_; rintro e w5 ⟨rfl, hk5, ht5⟩; have HC5 := Lib.hid (hk5.other HC4.out (by unfold My; decide)); have HK5 := Lib.hid hk5; have HT5 := Lib.hid ht5; clear hk5 ht5))
      go_ret
      exact ⟨rfl, (KB.of (by (repeat (first | exact KW.out | exact Keep.refl _ _ | refine Keep.drew ?_ | refine Keep.drewN ?_ _ | refine Keep.alloc ?_ _ | refine Keep.setNew ?_ (by omega) _)); done)).trans (HK4.out.trans HK5.out), HT5.out⟩
  by_cases k3 : K = 6
  · obtain ⟨E, hE⟩ := regain_pair (H1.out.keep0 (Keep.drew (Keep.refl _ _))) hn f hf hB1
    have HE := Lib.hid hE
    clear hE k1 k2
    subst k3
    go_enter Try.func31, Try.ntmps31
    go_wp2
    go_region_held3 (fun w' => w'.cell? ⟨w.heap.size, 1, none⟩ = some (.int .i64 f))
      (first | exact x1 | exact (cells2 HC4.out).2 | exact (cells2 HC5.out).2)
      (first | (go_at_call 21; refine HE.out.mono ?_; rintro e w4 ⟨rfl, hk4, hx4⟩; have HC4 := Lib.hid (hk4.other HB0.out (by unfold My; decide)); have HK4 := Lib.hid hk4; have HX4 := Lib.hid hx4; clear hk4 hx4) | (go_at_call 43; refine (HX4.out _ (by (repeat (first | exact Keep.refl _ _ | exact Keep.refl _ _ | refine Keep.drew ?_ | refine Keep.drewN ?_ _ | refine Keep.alloc ?_ _ | refine Keep.setNew ?_ (by omega) _)); done)).mono ?_; rintro e w5 ⟨rfl, hk5, ht5⟩; have HC5 := Lib.hid (hk5.other HC4.out (by unfold My; decide)); have HK5 := Lib.hid hk5; have HT5 := Lib.hid ht5; clear hk5 ht5))
    go_wp2
    go_ret
    exact ⟨rfl, (KB.of (by (repeat (first | exact KW.out | exact Keep.refl _ _ | refine Keep.drew ?_ | refine Keep.drewN ?_ _ | refine Keep.alloc ?_ _ | refine Keep.setNew ?_ (by omega) _)); done)).trans (HK4.out.trans HK5.out), HT5.out⟩
  · have q0 : (K == 0) = false := by simp; omega
    have q1 : (K == 1) = false := by simp; omega
    have q2 : (K == 2) = false := by simp; omega
    have q3 : (K == 3) = false := by simp; omega
    have q4 : (K == 4) = false := by simp; omega
    have q5 : (K == 5) = false := by simp; omega
    have q6 : (K == 6) = false := by simp; omega
    clear k1 k2 k3
    obtain ⟨M, E, hM, hE⟩ := split_pair H1.out hn f hf hB1
    have HE := Lib.hid hE
    clear hE
    go_enter Try.func31, Try.ntmps31
    go_wp2_with (first | (go_at_call 16; refine HE.out.mono ?_; rintro e w4 ⟨y4, rfl, hO4, hk4, hx4⟩; have HC4 := Lib.hid (hk4.other HB0.out (by unfold My; decide)); have HK4 := Lib.hid hk4; have HX4 := Lib.hid hx4; have y1 := (cells2 HC4.out).2; obtain ⟨a4, c4, rfl, -⟩ := hO4.slice; clear hk4 hx4 hO4) | (go_at_call 44; refine (HX4.out _ (by (repeat (first | exact Keep.refl _ _ | exact Keep.refl _ _ | refine Keep.drew ?_ | refine Keep.drewN ?_ _ | refine Keep.alloc ?_ _ | refine Keep.setNew ?_ (by omega) _)); done)).mono ?_; rintro e w5 ⟨y5, rfl, hO5, hO4, hk5, ht5⟩; have HO5 := Lib.hid hO5; have HO4 := Lib.hid hO4; have HK5 := Lib.hid hk5; have HT5 := Lib.hid ht5; obtain ⟨a5, c5, rfl, -⟩ := hO5.slice; clear hk5 ht5 hO4 hO5) | (go_at_call 24; refine (numbers_eq _ _ _ _ M _ HO4.out HO5.out (by omega)).mono ?_; rintro e w6 ⟨rfl, hk6⟩; have HK6 := Lib.hid hk6; clear hk6))
    go_ret
    exact ⟨rfl, (KB.of (by (repeat (first | exact KW.out | exact Keep.refl _ _ | refine Keep.drew ?_ | refine Keep.drewN ?_ _ | refine Keep.alloc ?_ _ | refine Keep.setNew ?_ (by omega) _)); done)).trans (HK4.out.trans (HK5.out.trans (KB.of HK6.out))), HT5.out.keep0 HK6.out⟩

end Go.Proofs.Ytdomdjfecnbenaa
