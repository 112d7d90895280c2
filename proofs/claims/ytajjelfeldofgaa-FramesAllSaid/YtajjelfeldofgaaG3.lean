/- FramesAll, FramesNone: the walks. -/
import Derived.Test.YtajjelfeldofgaaG2
set_option linter.unusedVariables false
set_option linter.unusedSimpArgs false
namespace Go.Proofs.Ytajjelfeldofgaa
open Go.RowKit Go.Own

theorem isF_at {L : List Int} {k : Nat} (h : k < L.length) : isF L k = gi L k := by
  unfold isF; rw [if_neg (by omega)]; rfl

/-- What a turn that went through was given. -/
theorem turnE_ok {L : List Int} {f n a b : Int} (h : turnE L f n a b = 0) :
    1 ≤ n ∧ 0 ≤ f ∧ f + n ≤ L.length ∧ 0 ≤ b ∧ b < 6 ∧ allAre L f.toNat n.toNat a ∧ turnL L f n a b = fillN L f.toNat b n.toNat := by
  have h' := h
  unfold turnE at h
  by_cases c1 : n < 1 ∨ stateB a = false ∨ stateB b = false
  · rw [if_pos c1] at h; omega
  · rw [if_neg c1] at h
    by_cases c2 : f < 0 ∨ (L.length : Int) ≤ f ∨ (L.length : Int) - f < n
    · rw [if_pos c2] at h; omega
    · rw [if_neg c2] at h
      by_cases c3 : mayB a b = false
      · rw [if_pos c3] at h; omega
      · rw [if_neg c3] at h
        by_cases c4 : allAre L f.toNat n.toNat a
        · rw [stateB_iff_f, stateB_iff_f] at c1
          exact ⟨by omega, by omega, by omega, by omega, by omega, c4, by unfold turnL; rw [if_pos h']⟩
        · rw [if_neg c4] at h; omega
theorem turnL_no {L : List Int} {f n a b : Int} (h : turnE L f n a b ≠ 0) : turnL L f n a b = L := by
  unfold turnL; rw [if_neg h]

set_option maxHeartbeats 2000000 in
theorem all_walk (n : Int) (la : Option Addr) (l c : Nat) (f m a b : Int) (w : World) (hr : RowsAt w la l [.int .i64, .int .i64, .int .i64, .int .i64])
    (wf : (Lit.int .i64 f).wf = true) (wm : (Lit.int .i64 m).wf = true) :
    Calls Try.prog 7 #[.int .i64 n, .slice la l c, .agg #[.int .i64 f, .int .i64 m, .int .i64 a, .int .i64 b]] w fun e w' => e = .returned (.bool true) ∧ Below w.heap.size w w' := by
  have hr1 : RowsAt (w.alloc (.cells #[.int .i64 f, .int .i64 m, .int .i64 a, .int .i64 b] 42)) la l [.int .i64, .int .i64, .int .i64, .int .i64] := fun i hi => by
    obtain ⟨b, o, cs, h1, h2, h3⟩ := hr i hi
    refine ⟨b, o, cs, h1, h2, fun j hj => ?_⟩
    rw [cell_alloc_lt]
    · exact h3 j hj
    · have := h3 j hj
      rw [List.getElem?_eq_getElem (by rw [h2.length]; exact hj)] at this
      exact block_lt_cell this
  have HR1 := Lib.hid hr1
  clear hr hr1
  by_cases hn : n < 8 ∨ 1024 < n
  · go_enter Try.func7, Try.ntmps7
    go_wp2_with (first | (go_at_call 9; refine (made_no _ _ _ _ _ hn).mono ?_; rintro e w1 ⟨rfl, rfl⟩) | (go_at_call 10; refine (awake_any _).mono ?_; rintro e w2 ⟨rfl, hk⟩))
    go_ret
    exact ⟨rfl, keep_below ((((Keep.refl _ w).alloc _).trans (by assumption)).trans hk)⟩
  · obtain ⟨n, rfl⟩ := Int.eq_ofNat_of_zero_le (show 0 ≤ n by omega)
    obtain ⟨A, rfl, hA⟩ := acts_of_rows HR1.out
    have HA := Lib.hid hA
    clear hA
    go_enter Try.func7, Try.ntmps7
    go_wp2_with (first | (go_at_call 9; refine (made_yes n _ _ _ _ (by omega) (by omega) HA.out).mono ?_; rintro e w1 ⟨p, q, p', v, L, rfl, hB, hL, hk1⟩; have HB := Lib.hid hB; have HL := Lib.hid hL; have HK := Lib.hid hk1; clear hB hL hk1) | (go_at_call 10; refine (awake_any _).mono ?_; rintro e w2 ⟨rfl, hk⟩; have HB2 := Lib.hid (HB.out.keep hk); have HK2 := Lib.hid (HK.out.trans hk); clear hk; have hx := kept4 HK2.out (heap_alloc_new w _) id; obtain ⟨x0, x1, x2, x3⟩ := hx)
                        | (go_at_call 13; refine (turn_any p q L _ _ _ _ _ (by exact HB2.out.f)).mono ?_; rintro e w3 ⟨rfl, hF, hk3⟩; have HF := Lib.hid hF; have HK3 := Lib.hid hk3; clear hF hk3))
    have hsz := HK2.out.size
    simp only [World.size_alloc] at hsz
    have e1 := HB2.out.pB; have e2 := HB2.out.qB; have e3 := HB2.out.rB
    simp only [World.size_alloc] at e1 e2 e3
    have hy := kept4 HK3.out ((HK2.out.block w.heap.size (by simp) id).trans (heap_alloc_new w _)) (by omega)
    obtain ⟨y0, y1, y2, y3⟩ := hy
    have HR3 := Lib.hid (HB2.out.r.keep HK3.out (by have := HB2.out.n1; have := HB2.out.n2; omega) (fun k h1 h2 => by have := HB2.out.n3; have := HB2.out.n4; rcases h2 with rfl | rfl <;> contradiction))
    have hlen := HB2.out.f.hi
    obtain ⟨g, cap, e, hBg, hgp, hcap, hcells⟩ := HR3.out.form
    subst e
    have HC := Lib.hid hcells
    clear hcells
    have hc0 := HR3.out.c0
    have HE : Hid (Below w.heap.size w w3) := by
      have k1 := ((Keep.refl (fun _ => False) w).alloc (.cells #[.int .i64 f, .int .i64 m, .int .i64 a, .int .i64 b] 42)).trans HK2.out
      exact keep_below (((k1.mono (T := fun x => w.heap.size ≤ x) (fun _ _ h => h.elim)).trans (HK3.out.mono (fun _ _ h => by omega))).mono (fun _ _ h => by omega))
    have wf' := wf64 wf; have wm' := wf64 wm
    by_cases hE : turnE L f m a b = 0
    · have hE' : (turnE L f m a b == 0) = true := by rw [hE]; rfl
      obtain ⟨t1, t2, t3, t4, t5, t6, t7⟩ := turnE_ok hE
      rw [t7] at HF
      obtain ⟨f, rfl⟩ := Int.eq_ofNat_of_zero_le t2
      obtain ⟨m, rfl⟩ := Int.eq_ofNat_of_zero_le (show 0 ≤ m by omega)
      simp only [Int.toNat_natCast] at t6 HF
      have HALL := Lib.hid t6
      clear hE t7 t6
      go_loop [11] (fun i => ∃ k : Nat, k ≤ L.length ∧ i = .int .i64 k) (fun i => L.length - (intOf i).toNat)
      case atStart => exact ⟨0, by omega, rfl⟩
      case round =>
        obtain ⟨k, hk, rfl⟩ := hrel
        by_cases hlt : k < L.length
        · have hcell := HC.out k hlt
          have hlt2 : k < (fillN L f b m).length := by rw [fillN_length]; exact hlt
          have hgi := gi_fillN L f b m k (by omega)
          by_cases h1 : f ≤ k
          · by_cases h2 : k < f + m
            · rw [if_pos ⟨h1, h2⟩] at hgi
              have hgl := HALL.out (k - f) (by omega)
              rw [show f + (k - f) = k by omega] at hgl
              have HI : Hid (isF (fillN L f b m) k = b) := (isF_at hlt2).trans hgi
              have h1' : (f : Int) ≤ k := by omega
              have h2' : (k : Int) - f < m := by omega
              have hne : (gi L k != a) = false := by simp [hgl]
              clear hgi hgl
              go_wp2_with (go_at_call 16; refine (is_any p q _ _ _ (by exact HF.out)).mono ?_; rintro e w4 ⟨rfl, rfl⟩; rw [HI.out])
              go_round
              case rel => exact ⟨k + 1, by omega, by go_num⟩
              case measure => simp [intOf]; omega
            · rw [if_neg (by omega)] at hgi
              have HI : Hid (isF (fillN L f b m) k = gi L k) := (isF_at hlt2).trans hgi
              have h1' : (f : Int) ≤ k := by omega
              have h2' : (m : Int) ≤ (k : Int) - f := by omega
              clear hgi
              go_wp2_with (go_at_call 16; refine (is_any p q _ _ _ (by exact HF.out)).mono ?_; rintro e w4 ⟨rfl, rfl⟩; rw [HI.out])
              go_round
              case rel => exact ⟨k + 1, by omega, by go_num⟩
              case measure => simp [intOf]; omega
          · rw [if_neg (by omega)] at hgi
            have HI : Hid (isF (fillN L f b m) k = gi L k) := (isF_at hlt2).trans hgi
            have h1' : (k : Int) < f := by omega
            clear hgi
            go_wp2_with (go_at_call 16; refine (is_any p q _ _ _ (by exact HF.out)).mono ?_; rintro e w4 ⟨rfl, rfl⟩; rw [HI.out])
            go_round
            case rel => exact ⟨k + 1, by omega, by go_num⟩
            case measure => simp [intOf]; omega
        · go_wp2
          go_ret
          exact ⟨rfl, HE.out⟩
    · have hE' : (turnE L f m a b == 0) = false := by simpa using hE
      rw [turnL_no hE] at HF
      clear hE
      go_loop [11] (fun i => ∃ k : Nat, k ≤ L.length ∧ i = .int .i64 k) (fun i => L.length - (intOf i).toNat)
      case atStart => exact ⟨0, by omega, rfl⟩
      case round =>
        obtain ⟨k, hk, rfl⟩ := hrel
        by_cases hlt : k < L.length
        · have hcell := HC.out k hlt
          have HI := Lib.hid (isF_at hlt)
          go_wp2_with (go_at_call 16; refine (is_any p q L _ _ (by exact HF.out)).mono ?_; rintro e w4 ⟨rfl, rfl⟩; rw [HI.out])
          go_round
          case rel => exact ⟨k + 1, by omega, by go_num⟩
          case measure => simp [intOf]; omega
        · go_wp2
          go_ret
          exact ⟨rfl, HE.out⟩

set_option maxHeartbeats 2000000 in
theorem none_walk (f m a b : Int) (w : World) :
    Calls Try.prog 8 #[.agg #[.int .i64 f, .int .i64 m, .int .i64 a, .int .i64 b]] w fun e w' => e = .returned (.bool true) ∧ Below w.heap.size w w' := by
  go_enter Try.func8, Try.ntmps8
  go_wp2_with (first | (go_at_call 10; refine (awake_any _).mono ?_; rintro e w2 ⟨rfl, hk⟩; have hx := kept4 hk (heap_alloc_new w _) id; obtain ⟨x0, x1, x2, x3⟩ := hx)
                      | (go_at_call 13; refine (turn_nil _ _ _ _ _).mono ?_; rintro e w3 ⟨rfl, rfl⟩)
                      | (go_at_call 16; refine (is_nil _ _).mono ?_; rintro e w3 ⟨rfl, rfl⟩)
                      | (go_at_call 11; refine (count_nil _ _).mono ?_; rintro e w3 ⟨rfl, rfl⟩)
                      | (go_at_call 14; refine (next_nil _ _ _).mono ?_; rintro e w3 ⟨rfl, rfl⟩)
                      | (go_at_call 12; refine (len_nil _).mono ?_; rintro e w3 ⟨rfl, rfl⟩))
  go_ret
  exact ⟨rfl, keep_below (((Keep.refl _ w).alloc _).trans (by assumption))⟩

end Go.Proofs.Ytajjelfeldofgaa
