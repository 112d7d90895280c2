/- Buddy: do: the walk of Give of any block; do. -/
import Derived.Test.YtcbkfilhgeeebaaAQ
set_option linter.unusedVariables false
set_option linter.unusedSimpArgs false
namespace Go.Proofs.Ytcbkfilhgeeebaa
open Go.RowKit Go.Own

abbrev DEf (q p x g n b : Nat) (f o : Int) (w : World) : Prop := w.cell? ⟨q, 0, none⟩ = some (.pointer (some ⟨p, 0, none⟩)) ∧ w.cell? ⟨q, 1, none⟩ = some (.pointer (some ⟨x, 0, none⟩)) ∧ w.cell? ⟨b, 1, none⟩ = some (.int .i64 f) ∧ w.cell? ⟨b, 2, none⟩ = some (.int .i64 o) ∧ w.cell? ⟨x, 0, none⟩ = some (.slice (some ⟨g, 0, none⟩) n n)
theorem def_of {w : World} {q p x g n b e e' : Nat} {F : Nat → Bool} {f o : Int} {v y0 y3 y4 : Value} (h : w.heap[q]? = some (.cells #[.pointer (some ⟨p, 0, none⟩), .pointer (some ⟨x, 0, none⟩), v] e (0, 0))) (h' : w.heap[b]? = some (.cells #[y0, .int .i64 f, .int .i64 o, y3, y4] e' (0, 0))) (hx : RX w x g n F) : DEf q p x g n b f o w :=
  ⟨(cells3 h).1, (cells3 h).2.1, (cells5 h').2.1, (cells5 h').2.2.1, hx.c0⟩

set_option maxRecDepth 100000 in
set_option maxHeartbeats 4000000 in
theorem do_bad {w : World} {B q p x g n : Nat} {F : Nat → Bool} {T : List Bk} (K f o nn : Int) (hh : Bool) (hf : i64B f) (hK : K ≠ 0 ∧ K ≠ 1 ∧ K ≠ 2 ∧ K ≠ 3 ∧ K ≠ 4) (h : Wd w B q p x g n F T) (hb : ¬ (0 ≤ o ∧ o ≤ 8 ∧ 0 ≤ f ∧ f < n)) :
    Calls Try.prog 17 #[.pointer (some ⟨q, 0, none⟩), .agg #[.int .i64 K, .int .i64 f, .int .i64 o, .int .i64 nn, .bool hh]] w (DoC w B q p x g n T) := by
  obtain ⟨v, hS, hT⟩ := h
  have HT := Lib.hid hT
  have HS := Lib.hid hS
  have HF := Lib.hid hf
  have HNB : Hid (¬ TkB n F f o) := bad_tk hb
  clear hS hT hf
  have HBX : Hid ((w.alloc (.cells #[.int .i64 K, .int .i64 f, .int .i64 o, .int .i64 nn, .bool hh] 42)).heap[w.heap.size]? = some (.cells #[.int .i64 K, .int .i64 f, .int .i64 o, .int .i64 nn, .bool hh] 42 (0, 0))) := heap_alloc_new w _
  have HK1 : Hid (Keep (fun _ => False) w (w.alloc (.cells #[.int .i64 K, .int .i64 f, .int .i64 o, .int .i64 nn, .bool hh] 42))) := (Keep.refl _ _).alloc _
  obtain ⟨q0, q1, q2, q3, q4⟩ := sw5 hK
  rcases sw_bad hb with t0 | ⟨t0, t1⟩ | ⟨t0, t1, t2⟩ | ⟨t0, t1, t2, t3⟩
  all_goals
    clear hb hK
    go_enter Try.func17, Try.ntmps17
    go_wp2
    obtain ⟨b3, hb3⟩ : ∃ b3, w.heap.size = b3 := ⟨_, rfl⟩
    rw [hb3] at HBX ⊢
    generalize w.alloc (.cells #[.int .i64 K, .int .i64 f, .int .i64 o, .int .i64 nn, .bool hh] 42) = w1 at HBX HK1 ⊢
    clear hb3
    have HS1 := Lib.hid (HS.out.keep0 HK1.out)
    have HC1 := Lib.hid (def_of HS1.out.2.1 HBX.out HS1.out.1.2.1)
    obtain ⟨z0, z1, d1, d2, x0⟩ := HC1.out
    go_quiet (fail)
    go_wp2
    go_region_held3 (fun w' => DCf q p x b3 f o w')
      (first | exact HC6.out | exact HC5.out | exact ⟨z0, z1, d1, d2⟩)
      (first | (go_at_call 22; refine (pair_give f o HF.out (HS1.out.1.keep0 (by (repeat (first | exact Keep.refl _ _ | exact Keep.refl _ _ | refine Keep.drew ?_ | refine Keep.drewN ?_ _ | refine Keep.alloc ?_ _ | refine Keep.setNew ?_ (by omega) _)); done))).mono ?_; rintro e w5 ⟨er, F', rfl, hx5, hp5, hk5⟩; have HX5 := Lib.hid hx5; have HP5 := Lib.hid hp5; have HK5 : Hid (KT B p g w1 w5) := kt_on (by (repeat (first | exact Keep.refl _ _ | exact Keep.refl _ _ | refine Keep.drew ?_ | refine Keep.drewN ?_ _ | refine Keep.alloc ?_ _ | refine Keep.setNew ?_ (by omega) _)); done) hk5; have HC5 := Lib.hid (dcf_of (kt_block HS1.out.1 HK5.out HS1.out.2.1 (by decide)) (kt_block HS1.out.1 HK5.out HBX.out (by decide))); clear hx5 hk5 hp5) | (go_at_call 34; refine (HX5.out _ (by (repeat (first | exact Keep.refl _ _ | exact Keep.refl _ _ | refine Keep.drew ?_ | refine Keep.drewN ?_ _ | refine Keep.alloc ?_ _ | refine Keep.setNew ?_ (by omega) _)); done)).mono ?_; rintro e w6 ⟨rfl, ht6, hk6⟩; have HK6 : Hid (KT B p g w1 w6) := kt_on (by (repeat (first | exact Keep.refl _ _ | exact Keep.refl _ _ | refine Keep.drew ?_ | refine Keep.drewN ?_ _ | refine Keep.alloc ?_ _ | refine Keep.setNew ?_ (by omega) _)); done) hk6; have HS6 := Lib.hid (HS1.out.on HK6.out ht6); have HC6 := Lib.hid (dcf_of HS6.out.2.1 (kt_block HS1.out.1 HK6.out HBX.out (by decide))); clear ht6 hk6))
    rcases HP5.out with ⟨he, rfl⟩ | ⟨rfl, a', o', rfl, rfl, ho8, hao, han, hb, rfl⟩
    · clear he HP5
      go_wp2
      go_ret
      exact ⟨rfl, _, _, ⟨_, HS6.out, HT.out⟩, by omega, UpO.trans (UpO.of HK1.out) (UpO.kt HS1.out.1 HK6.out)⟩
    · exact absurd ⟨a', o', rfl, rfl, ho8, hao, han, hb⟩ HNB.out

end Go.Proofs.Ytcbkfilhgeeebaa
