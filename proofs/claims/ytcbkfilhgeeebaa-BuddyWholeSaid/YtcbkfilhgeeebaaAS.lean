/- Buddy: do: Give of a block that there may be; do. -/
import Derived.Test.YtcbkfilhgeeebaaAR
set_option linter.unusedVariables false
set_option linter.unusedSimpArgs false
namespace Go.Proofs.Ytcbkfilhgeeebaa
open Go.RowKit Go.Own

theorem def_kt {w w' : World} {B q p x g n b : Nat} {F : Nat → Bool} {f o : Int} {v y0 y3 y4 : Value} {T : List Bk} (h : St w B q p x g n F v T) (h' : w.heap[b]? = some (.cells #[y0, .int .i64 f, .int .i64 o, y3, y4] 42 (0, 0))) (k : KT B p g w w') : DEf q p x g n b f o w' := by
  have h1 := kt_block h.1 k h.2.1 (by decide)
  have h2 := kt_block h.1 k h' (by decide)
  have h3 := kt_block h.1 k h.1.2.1.1 (by decide)
  exact ⟨(cells3 h1).1, (cells3 h1).2.1, (cells5 h2).2.1, (cells5 h2).2.2.1, by rw [cell_block h3]; rfl⟩

theorem dcf_kt {w w2 w6 : World} {B q p x g n b : Nat} {F : Nat → Bool} {f o : Int} {v y0 y3 y4 : Value} {T : List Bk} (h : St w B q p x g n F v T) (h' : w.heap[b]? = some (.cells #[y0, .int .i64 f, .int .i64 o, y3, y4] 42 (0, 0))) (k : KT B p g w w2) (h2 : St w2 B q p x g n F v T) (k6 : KT B p g w2 w6) : DCf q p x b f o w6 :=
  dcf_of (kt_block h2.1 k6 h2.2.1 (by decide)) (kt_block h2.1 k6 (kt_block h.1 k h' (by decide)) (by decide))

set_option maxRecDepth 100000 in
set_option maxHeartbeats 4000000 in
theorem do_good {w : World} {B q p x g n : Nat} {F : Nat → Bool} {T : List Bk} (K f o nn : Int) (hh : Bool) (hf : i64B f) (hK : K ≠ 0 ∧ K ≠ 1 ∧ K ≠ 2 ∧ K ≠ 3 ∧ K ≠ 4) (h : Wd w B q p x g n F T) (hb : 0 ≤ o ∧ o ≤ 8 ∧ 0 ≤ f ∧ f < n) :
    Calls Try.prog 17 #[.pointer (some ⟨q, 0, none⟩), .agg #[.int .i64 K, .int .i64 f, .int .i64 o, .int .i64 nn, .bool hh]] w (DoC w B q p x g n T) := by
  obtain ⟨v, hS, hT⟩ := h
  have HT := Lib.hid hT
  have HS := Lib.hid hS
  have HF := Lib.hid hf
  clear hS hT hf
  have HBX : Hid ((w.alloc (.cells #[.int .i64 K, .int .i64 f, .int .i64 o, .int .i64 nn, .bool hh] 42)).heap[w.heap.size]? = some (.cells #[.int .i64 K, .int .i64 f, .int .i64 o, .int .i64 nn, .bool hh] 42 (0, 0))) := heap_alloc_new w _
  have HK1 : Hid (Keep (fun _ => False) w (w.alloc (.cells #[.int .i64 K, .int .i64 f, .int .i64 o, .int .i64 nn, .bool hh] 42))) := (Keep.refl _ _).alloc _
  obtain ⟨q0, q1, q2, q3, q4⟩ := sw5 hK
  obtain ⟨t0, t1, t2, t3⟩ := sw_good hb
  clear hb hK
  go_enter Try.func17, Try.ntmps17
  go_wp2
  obtain ⟨b3, hb3⟩ : ∃ b3, w.heap.size = b3 := ⟨_, rfl⟩
  rw [hb3] at HBX ⊢
  generalize w.alloc (.cells #[.int .i64 K, .int .i64 f, .int .i64 o, .int .i64 nn, .bool hh] 42) = w1 at HBX HK1 ⊢
  clear hb3
  have HS1 := Lib.hid (HS.out.keep0 HK1.out)
  have HC1 := Lib.hid (def_of HS1.out.2.1 HBX.out HS1.out.1.2.1)
  go_region_held3 (fun w' => DEf q p x g n b3 f o w')
    (first | exact HC2.out | exact HC1.out)
    (first | (go_at_call 34; refine (chg_two f o HF.out (HS1.out.1.keep0 (by (repeat (first | exact Keep.refl _ _ | exact Keep.refl _ _ | refine Keep.drew ?_ | refine Keep.drewN ?_ _ | refine Keep.alloc ?_ _ | refine Keep.setNew ?_ (by omega) _)); done))).mono ?_; rintro e w2 ⟨er, rfl, hk2, hp2⟩; have HP2 := Lib.hid hp2; have HK2 : Hid (KT B p g w1 w2) := kt_on (by (repeat (first | exact Keep.refl _ _ | exact Keep.refl _ _ | refine Keep.drew ?_ | refine Keep.drewN ?_ _ | refine Keep.alloc ?_ _ | refine Keep.setNew ?_ (by omega) _)); done) hk2; have HC2 := Lib.hid (def_kt HS1.out HBX.out HK2.out); clear hp2 hk2))
  all_goals
    obtain ⟨z0, z1, d1, d2, x0⟩ := HC2.out
    rcases HP2.out with ⟨he, hk2, hn2⟩ | ⟨rfl, hx2⟩
    · have he' : (er == 0) = false := by simp [he]
      have HN2 := Lib.hid hn2
      have HS2 : Hid (St w2 B q p x g n F v T) := HS1.out.keep0 (Keep.trans (by (repeat (first | exact Keep.refl _ _ | exact Keep.refl _ _ | refine Keep.drew ?_ | refine Keep.drewN ?_ _ | refine Keep.alloc ?_ _ | refine Keep.setNew ?_ (by omega) _)); done) hk2)
      clear he HP2 hk2 hn2
      go_wp2
      go_region_held3 (fun w' => DCf q p x b3 f o w')
        (first | exact HC6.out | exact HC5.out | exact ⟨z0, z1, d1, d2⟩)
        (first | (go_at_call 22; refine (pair_give f o HF.out (HS2.out.1.keep0 (by (repeat (first | exact Keep.refl _ _ | exact Keep.refl _ _ | refine Keep.drew ?_ | refine Keep.drewN ?_ _ | refine Keep.alloc ?_ _ | refine Keep.setNew ?_ (by omega) _)); done))).mono ?_; rintro e w5 ⟨e5, F', rfl, hx5, hp5, hk5⟩; have HX5 := Lib.hid hx5; have HP5 := Lib.hid hp5; have HK5 : Hid (KT B p g w2 w5) := kt_on (by (repeat (first | exact Keep.refl _ _ | exact Keep.refl _ _ | refine Keep.drew ?_ | refine Keep.drewN ?_ _ | refine Keep.alloc ?_ _ | refine Keep.setNew ?_ (by omega) _)); done) hk5; have HC5 := Lib.hid (dcf_kt HS1.out HBX.out HK2.out HS2.out HK5.out); clear hx5 hk5 hp5) | (go_at_call 34; refine (HX5.out _ (by (repeat (first | exact Keep.refl _ _ | exact Keep.refl _ _ | refine Keep.drew ?_ | refine Keep.drewN ?_ _ | refine Keep.alloc ?_ _ | refine Keep.setNew ?_ (by omega) _)); done)).mono ?_; rintro e w6 ⟨rfl, ht6, hk6⟩; have HK6 : Hid (KT B p g w2 w6) := kt_on (by (repeat (first | exact Keep.refl _ _ | exact Keep.refl _ _ | refine Keep.drew ?_ | refine Keep.drewN ?_ _ | refine Keep.alloc ?_ _ | refine Keep.setNew ?_ (by omega) _)); done) hk6; have HS6 := Lib.hid (HS2.out.on HK6.out ht6); have HC6 := Lib.hid (dcf_kt HS1.out HBX.out HK2.out HS2.out HK6.out); clear ht6 hk6))
      rcases HP5.out with ⟨he, rfl⟩ | ⟨rfl, a', o', rfl, rfl, ho8, hao, han, hb, rfl⟩
      · clear he HP5
        go_wp2
        go_ret
        exact ⟨rfl, _, _, ⟨_, HS6.out, HT.out⟩, by omega, UpO.trans (UpO.of HK1.out) ((UpO.kt HS1.out.1 HK2.out).trans (UpO.kt HS2.out.1 HK6.out))⟩
      · exact absurd ⟨a', o', rfl, rfl, ho8, hao, han, hb⟩ HN2.out
    · have HX2 := Lib.hid hx2
      clear HP2 hx2
      go_wp2
      go_region_held3 (fun w' => DCf q p x b3 f o w')
        (first | exact HC6.out | exact ⟨z0, z1, d1, d2⟩)
        (first | (go_at_call 34; refine (HX2.out _ (by (repeat (first | exact Keep.refl _ _ | exact Keep.refl _ _ | refine Keep.drew ?_ | refine Keep.drewN ?_ _ | refine Keep.alloc ?_ _ | refine Keep.setNew ?_ (by omega) _)); done)).mono ?_; rintro e w6 ⟨rfl, ht6, hk6⟩; have HK6 : Hid (KT B p g w1 w6) := kt_on (by (repeat (first | exact Keep.refl _ _ | exact Keep.refl _ _ | refine Keep.drew ?_ | refine Keep.drewN ?_ _ | refine Keep.alloc ?_ _ | refine Keep.setNew ?_ (by omega) _)); done) hk6; have HS6 := Lib.hid (HS1.out.on HK6.out ht6); have HC6 := Lib.hid (dcf_of HS6.out.2.1 (kt_block HS1.out.1 HK6.out HBX.out (by decide))); clear ht6 hk6))
      go_wp2
      go_ret
      exact ⟨rfl, _, _, ⟨_, HS6.out, HT.out⟩, by omega, UpO.trans (UpO.of HK1.out) (UpO.kt HS1.out.1 HK6.out)⟩

/-- Any call. -/
theorem do_any {w : World} {B q p x g n : Nat} {F : Nat → Bool} {T : List Bk} (K f o nn : Int) (hh : Bool) (hf : i64B f) (h : Wd w B q p x g n F T) (hl : T.length ≤ 5000) :
    Calls Try.prog 17 #[.pointer (some ⟨q, 0, none⟩), .agg #[.int .i64 K, .int .i64 f, .int .i64 o, .int .i64 nn, .bool hh]] w (DoC w B q p x g n T) := by
  by_cases h1 : K = 0 ∨ K = 1 ∨ K = 2
  · exact do_take K f o nn hh h1 h hl
  by_cases h3 : K = 3
  · subst h3; exact do_at f o nn hh hf h hl
  by_cases h4 : K = 4
  · subst h4; exact do_give f o nn hh h hl
  have hK : K ≠ 0 ∧ K ≠ 1 ∧ K ≠ 2 ∧ K ≠ 3 ∧ K ≠ 4 := by omega
  by_cases hb : 0 ≤ o ∧ o ≤ 8 ∧ 0 ≤ f ∧ f < n
  · exact do_good K f o nn hh hf hK h hb
  · exact do_bad K f o nn hh hf hK h hb

end Go.Proofs.Ytcbkfilhgeeebaa
