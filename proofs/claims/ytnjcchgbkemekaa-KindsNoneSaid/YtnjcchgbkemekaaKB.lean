/- Kinds: TakeAt, Give, Set, FreeOf, New; nil ones. -/
import Derived.Test.YtnjcchgbkemekaaKA
set_option linter.unusedVariables false
set_option linter.unusedSimpArgs false
namespace Go.Proofs.Ytnjcchgbkemekaa
open Go.RowKit Go.Own

section
variable {w : World} {B k b kr n : Nat} {F : Nat → Bool} {M : Nat → Int} {N : Nat → Prop}
theorem khas_out (f : Int) (h : KO w B k b kr n F M N) (hf : f < 0 ∨ (n : Int) ≤ f) : Calls Try.prog 26 #[.pointer (some ⟨k, 0, none⟩), .int .i64 f] w fun e w' => e = .returned (.bool false) ∧ Keep (fun _ => False) w w' := by
  obtain ⟨z0, z1, z2⟩ := cells3 h.hk
  have HT : Hid (∀ W, Keep (fun _ => False) w W → Calls Try.prog 41 #[.pointer (some ⟨b, 0, none⟩), .int .i64 f] W fun e w' => e = .returned (.bool false) ∧ Keep (fun _ => False) W w') := fun W K => by
    obtain ⟨S, h1, _⟩ := BF.keep0 h.bf K
    exact has_out f h1 hf
  clear h hf
  go_enter Try.func26, Try.ntmps26
  go_wp2_with (go_at_call 41; refine (HT.out _ (by (repeat (first | exact Keep.refl _ _ | exact Keep.refl _ _ | refine Keep.drew ?_ | refine Keep.drewN ?_ _ | refine Keep.alloc ?_ _ | refine Keep.setNew ?_ (by omega) _)); done)).mono ?_; rintro e w1 ⟨rfl, hk1⟩)
  go_ret
  exact ⟨rfl, (by (repeat (first | exact hk1 | exact Keep.refl _ _ | refine Keep.drew ?_ | refine Keep.drewN ?_ _ | refine Keep.alloc ?_ _ | refine Keep.setNew ?_ (by omega) _)); done)⟩
/-- TakeAt and Give hand on what the buddy says. -/
theorem kat_pass (f o : Int) (h : KO w B k b kr n F M N) (Q : Int → World → Prop) (hq : Calls Try.prog 36 #[.pointer (some ⟨b, 0, none⟩), .int .i64 f, .int .i64 o] w fun e w' => ∃ er, e = .returned (.int .i64 er) ∧ Q er w') :
    Calls Try.prog 22 #[.pointer (some ⟨k, 0, none⟩), .int .i64 f, .int .i64 o] w fun e w' => ∃ er, e = .returned (.int .i64 er) ∧ Q er w' := by
  obtain ⟨z0, z1, z2⟩ := cells3 h.hk
  have HQ := Lib.hid hq
  clear h hq
  go_enter Try.func22, Try.ntmps22
  go_wp2_with (go_at_call 36; refine HQ.out.mono ?_; rintro e w1 ⟨er, rfl, hq⟩)
  go_ret
  exact ⟨er, rfl, hq⟩
theorem kgive_pass (f o : Int) (h : KO w B k b kr n F M N) (Q : Int → World → Prop) (hq : Calls Try.prog 40 #[.pointer (some ⟨b, 0, none⟩), .int .i64 f, .int .i64 o] w fun e w' => ∃ er, e = .returned (.int .i64 er) ∧ Q er w') :
    Calls Try.prog 23 #[.pointer (some ⟨k, 0, none⟩), .int .i64 f, .int .i64 o] w fun e w' => ∃ er, e = .returned (.int .i64 er) ∧ Q er w' := by
  obtain ⟨z0, z1, z2⟩ := cells3 h.hk
  have HQ := Lib.hid hq
  clear h hq
  go_enter Try.func23, Try.ntmps23
  go_wp2_with (go_at_call 40; refine HQ.out.mono ?_; rintro e w1 ⟨er, rfl, hq⟩)
  go_ret
  exact ⟨er, rfl, hq⟩
/-- One section's kind turned. -/
def setM (M : Nat → Int) (i : Nat) (x : Int) : Nat → Int := fun j => if j = i then x else M j
theorem KO.setM {i : Nat} (x : Int) (h : KO w B k b kr n F M N) : KO (w.setCell ⟨kr, i, none⟩ (.int .i64 x)) B k b kr n F (setM M i x) N ∧ Keep (fun z => z = kr) w (w.setCell ⟨kr, i, none⟩ (.int .i64 x)) := by
  have K : Keep (fun z => z = kr) w (w.setCell ⟨kr, i, none⟩ (.int .i64 x)) := (Keep.refl (fun z => z = kr) w).setCell (p := ⟨kr, i, none⟩) (fun _ => rfl) _
  obtain ⟨c, hc⟩ := h.bf.hp
  obtain ⟨c2, h2⟩ := h.mt.typ
  refine ⟨⟨?_, (h.bf.keep K (typ_ne hc h2 (by decide)) (fun z hz e => hz.1.2.2 (by rw [e]; exact h.nk))).gk (fun z hz => hz.1.2.2), h.mt.set x, h.nk, fun z hz => Nat.lt_of_lt_of_le (h.nl z hz) K.size, Nat.le_trans h.hB K.size⟩, K⟩
  rw [K.block k (block_lt h.hk) (typ_ne h.hk h2 (by decide))]
  exact h.hk
theorem kset_range (f x : Int) (h : KO w B k b kr n F M N) (hf : f < 0 ∨ (sec n : Int) ≤ f) : Calls Try.prog 24 #[.pointer (some ⟨k, 0, none⟩), .int .i64 f, .int .i64 x] w fun e w' => e = .returned (.int .i64 3) ∧ w' = w := by
  obtain ⟨z0, z1, z2⟩ := cells3 h.hk
  clear h
  by_cases h0 : f < 0
  · have t0 : decide (f < 0) = true := by simp; omega
    clear hf
    go_enter Try.func24, Try.ntmps24
    go_wp2
    go_ret
    exact ⟨rfl, rfl⟩
  · have t0 : decide (f < 0) = false := by simp; omega
    have t1 : decide ((sec n : Int) ≤ f) = true := by simp; omega
    clear hf
    go_enter Try.func24, Try.ntmps24
    go_wp2
    go_ret
    exact ⟨rfl, rfl⟩
theorem kset_arg (f x : Int) (h : KO w B k b kr n F M N) (hf : 0 ≤ f ∧ f < (sec n : Int)) (hx : x < 0 ∨ 3 < x) : Calls Try.prog 24 #[.pointer (some ⟨k, 0, none⟩), .int .i64 f, .int .i64 x] w fun e w' => e = .returned (.int .i64 2) ∧ w' = w := by
  obtain ⟨z0, z1, z2⟩ := cells3 h.hk
  clear h
  have t0 : decide (f < 0) = false := by simp; omega
  have t1 : decide ((sec n : Int) ≤ f) = false := by simp; omega
  clear hf
  by_cases h0 : x < 0
  · have t2 : decide (x < 0) = true := by simp; omega
    clear hx
    go_enter Try.func24, Try.ntmps24
    go_wp2
    go_ret
    exact ⟨rfl, rfl⟩
  · have t2 : decide (x < 0) = false := by simp; omega
    have t3 : decide (3 < x) = true := by simp; omega
    clear hx
    go_enter Try.func24, Try.ntmps24
    go_wp2
    go_ret
    exact ⟨rfl, rfl⟩
theorem kset_ok (i : Nat) (x : Int) (h : KO w B k b kr n F M N) (hi : i < sec n) (hx : 0 ≤ x ∧ x ≤ 3) : Calls Try.prog 24 #[.pointer (some ⟨k, 0, none⟩), .int .i64 (i : Int), .int .i64 x] w fun e w' => e = .returned (.int .i64 0) ∧ KO w' B k b kr n F (setM M i x) N ∧ Keep (fun z => z = kr) w w' := by
  obtain ⟨z0, z1, z2⟩ := cells3 h.hk
  have HK := Lib.hid (h.setM (i := i) x)
  have hc := h.mt.cell hi
  have hfz := h.mt.frozen i
  clear h
  have t0 : decide ((i : Int) < 0) = false := by simp
  have t1 : decide ((sec n : Int) ≤ (i : Int)) = false := by simp; omega
  have t1' : decide (sec n ≤ i) = false := by simp; omega
  have t2 : decide (x < 0) = false := by simp; omega
  have t3 : decide (3 < x) = false := by simp; omega
  have i0 : (0 : Int) ≤ i := by omega
  have i1 : (i : Int) < (sec n : Int) := by omega
  clear hx
  go_enter Try.func24, Try.ntmps24
  go_wp2
  go_ret
  exact ⟨rfl, HK.out⟩
end
theorem ktake_nil (o x : Int) (w : World) : Calls Try.prog 13 #[.pointer none, .int .i64 o, .int .i64 x] w fun e w' => e = .returned (.tuple #[.int .i64 0, .int .i64 1]) ∧ w' = w := by
  go_enter Try.func13, Try.ntmps13
  go_wp2
  go_ret2
  exact ⟨rfl, rfl⟩
theorem ktakeAt_nil (f o : Int) (w : World) : Calls Try.prog 22 #[.pointer none, .int .i64 f, .int .i64 o] w fun e w' => e = .returned (.int .i64 1) ∧ w' = w := by
  go_enter Try.func22, Try.ntmps22
  go_wp2
  go_ret
  exact ⟨rfl, rfl⟩
theorem kgive_nil (f o : Int) (w : World) : Calls Try.prog 23 #[.pointer none, .int .i64 f, .int .i64 o] w fun e w' => e = .returned (.int .i64 1) ∧ w' = w := by
  go_enter Try.func23, Try.ntmps23
  go_wp2
  go_ret
  exact ⟨rfl, rfl⟩
theorem kset_nil (f o : Int) (w : World) : Calls Try.prog 24 #[.pointer none, .int .i64 f, .int .i64 o] w fun e w' => e = .returned (.int .i64 1) ∧ w' = w := by
  go_enter Try.func24, Try.ntmps24
  go_wp2
  go_ret
  exact ⟨rfl, rfl⟩
theorem kkind_nil (f : Int) (w : World) : Calls Try.prog 17 #[.pointer none, .int .i64 f] w fun e w' => e = .returned (.int .i64 (-1)) ∧ w' = w := by
  go_enter Try.func17, Try.ntmps17
  go_wp2
  go_ret
  exact ⟨rfl, rfl⟩
theorem kfree_nil (w : World) : Calls Try.prog 20 #[.pointer none] w fun e w' => e = .returned (.int .i64 0) ∧ w' = w := by
  go_enter Try.func20, Try.ntmps20
  go_wp2
  go_ret
  exact ⟨rfl, rfl⟩
theorem kblocks_nil (w : World) : Calls Try.prog 18 #[.pointer none] w fun e w' => e = .returned (.slice none 0 0) ∧ w' = w := by
  go_enter Try.func18, Try.ntmps18
  go_wp2
  go_ret
  exact ⟨rfl, rfl⟩
theorem khas_nil (f : Int) (w : World) : Calls Try.prog 26 #[.pointer none, .int .i64 f] w fun e w' => e = .returned (.bool false) ∧ w' = w := by
  go_enter Try.func26, Try.ntmps26
  go_wp2
  go_ret
  exact ⟨rfl, rfl⟩
theorem kfreeOf_nil (f : Int) (w : World) : Calls Try.prog 25 #[.pointer none, .int .i64 f] w fun e w' => e = .returned (.int .i64 0) ∧ w' = w := by
  go_enter Try.func25, Try.ntmps25
  go_wp2
  refine wp_loop_once ?_
  go_wp2
  go_ret
  exact ⟨rfl, rfl⟩

/-- How many of a kind are free, among the first n. -/
def cntK (F : Nat → Bool) (M : Nat → Int) (x : Int) (n : Nat) : Nat := (List.range n).countP fun i => F i && decide (M (i / 8) = x)
theorem cntK_le (F : Nat → Bool) (M : Nat → Int) (x : Int) (n : Nat) : cntK F M x n ≤ n := by unfold cntK; have := List.countP_le_length (p := fun i => F i && decide (M (i / 8) = x)) (l := List.range n); simpa using this
theorem cntK_succ (F : Nat → Bool) (M : Nat → Int) (x : Int) (j : Nat) : cntK F M x (j + 1) = cntK F M x j + (if (F j && decide (M (j / 8) = x)) = true then 1 else 0) := by
  unfold cntK
  rw [List.range_succ, List.countP_append, List.countP_singleton]

set_option maxHeartbeats 1000000 in
theorem kfreeOf {w : World} {B k b kr n : Nat} {F : Nat → Bool} {M : Nat → Int} {N : Nat → Prop} (x : Int) (h : KO w B k b kr n F M N) :
    Calls Try.prog 25 #[.pointer (some ⟨k, 0, none⟩), .int .i64 x] w fun e w' => e = .returned (.int .i64 (cntK F M x n : Nat)) ∧ Keep (fun _ => False) w w' := by
  have HO := Lib.hid h
  have hn1 := h.bf.n1024
  clear h
  go_enter Try.func25, Try.ntmps25
  go_wp2
  go_loopw [5, 6] (fun c i wr => ∃ j : Nat, j ≤ n ∧ i = .int .i64 (j : Int) ∧ (∃ s : Nat, s = cntK F M x j ∧ c = .int .i64 (s : Int)) ∧ Keep (fun _ => False) w wr) (fun _ i _ => n - (intOf i).toNat)
  case atStart => exact ⟨0, by omega, rfl, ⟨0, rfl, rfl⟩, Keep.refl _ _⟩
  case round =>
    obtain ⟨j, hj, rfl, ⟨s, hs, rfl⟩, hk⟩ := hrel
    have HK := Lib.hid hk
    have HW := Lib.hid (HO.out.keep0 hk)
    obtain ⟨z0, z1, z2⟩ := cells3 HW.out.hk
    clear hk
    by_cases hjn : j < n
    · have hsl : s ≤ j := by rw [hs]; exact cntK_le F M x j
      have hsc := cntK_succ F M x j
      rw [← hs] at hsc
      have s1 : (s : Int) < 1024 := by omega
      have s0 : (0 : Int) ≤ s := Int.natCast_nonneg s
      have j0 : (0 : Int) ≤ j := Int.natCast_nonneg j
      have j1 : (j : Int) < (n : Int) := by omega
      have j2 : (j : Int) < 1024 := by omega
      have HKI := Lib.hid (kind_in HW.out hjn)
      by_cases hm : M (j / 8) = x
      · have t0 : (M (j / 8) == x) = true := by simp [hm]
        have HHAS : Hid (Calls Try.prog 41 #[.pointer (some ⟨b, 0, none⟩), .int .i64 (j : Int)] wr fun e w' => e = .returned (.bool (F j)) ∧ Keep (fun _ => False) wr w') := by
          obtain ⟨S, h1, h2, _⟩ := HW.out.bf
          exact has_in h1 h2 hjn
        cases hF : F j with
        | true =>
          rw [hF, decide_eq_true hm] at hsc
          rw [hF] at HHAS
          have HS := Lib.hid hsc
          clear hs hsc hF hm
          go_wp2_with (first | (go_at_call 17; refine HKI.out.mono ?_; rintro e w1 ⟨rfl, rfl⟩) | (go_at_call 41; refine HHAS.out.mono ?_; rintro e w2 ⟨rfl, hk2⟩; have HK2 := Lib.hid hk2; clear hk2))
          go_roundw
          case rel => exact ⟨j + 1, by omega, by go_num, ⟨s + 1, by rw [HS.out]; simp, by go_num⟩, HK.out.trans HK2.out⟩
          case measure => simp [intOf]; omega
        | false =>
          rw [hF] at hsc HHAS
          have HS := Lib.hid hsc
          clear hs hsc hF hm
          go_wp2_with (first | (go_at_call 17; refine HKI.out.mono ?_; rintro e w1 ⟨rfl, rfl⟩) | (go_at_call 41; refine HHAS.out.mono ?_; rintro e w2 ⟨rfl, hk2⟩; have HK2 := Lib.hid hk2; clear hk2))
          go_roundw
          case rel => exact ⟨j + 1, by omega, by go_num, ⟨s, by rw [HS.out]; simp, rfl⟩, HK.out.trans HK2.out⟩
          case measure => simp [intOf]; omega
      · have t0 : (M (j / 8) == x) = false := by simp [hm]
        rw [decide_eq_false hm, Bool.and_false] at hsc
        have HS := Lib.hid hsc
        clear hs hsc hm
        go_wp2_with (go_at_call 17; refine HKI.out.mono ?_; rintro e w1 ⟨rfl, rfl⟩)
        go_roundw
        case rel => exact ⟨j + 1, by omega, by go_num, ⟨s, by rw [HS.out]; simp, rfl⟩, HK.out⟩
        case measure => simp [intOf]; omega
    · have j1 : ¬ (j : Int) < (n : Int) := by omega
      obtain rfl : j = n := by omega
      have HS := Lib.hid hs
      clear hs
      go_wp2
      go_ret
      exact ⟨ret_int (by rw [HS.out]), HK.out⟩

end Go.Proofs.Ytnjcchgbkemekaa
