/- Buddy: BuddyWhole, the walk. -/
import Derived.Test.YtcbkfilhgeeebaaAY
set_option linter.unusedVariables false
set_option linter.unusedSimpArgs false
namespace Go.Proofs.Ytcbkfilhgeeebaa
open Go.RowKit Go.Own

theorem cnt_upTo (a : Nat) : cnt (upTo a) a = a := by
  unfold cnt
  have : (List.range a).countP (upTo a) = (List.range a).length := by
    rw [List.countP_eq_length]
    intro i hi
    rw [List.mem_range] at hi
    simp [upTo, hi]
  rw [this, List.length_range]
/-- The state behind some calls; k of them took some, or: k gives. -/
def LoopW (w0 w4 wr : World) (q p x g n k j : Nat) : Prop := ∃ F T, Wd wr w0.heap.size q p x g n F T ∧ T.length ≤ k ∧ j ≤ cnt F n ∧ Up w0.heap.size w0 wr ∧ Off q w4 wr
theorem LoopW.do {w0 w4 w : World} {q p x g n k : Nat} (h : LoopW w0 w4 w q p x g n k 0) (hk : k ≤ 60) (K f o nn : Int) (hh : Bool) (hf : i64B f) :
    Calls Try.prog 17 #[.pointer (some ⟨q, 0, none⟩), .agg #[.int .i64 K, .int .i64 f, .int .i64 o, .int .i64 nn, .bool hh]] w fun e w' => e = .returned (.bool true) ∧ LoopW w0 w4 w' q p x g n (k + 1) 0 := by
  obtain ⟨F, T, h1, h2, -, h3, h4⟩ := h
  refine (do_any K f o nn hh hf h1 (by omega)).mono ?_
  rintro e w' ⟨rfl, F', T', h5, h6, h7⟩
  exact ⟨rfl, F', T', h5, by omega, Nat.zero_le _, Keep.trans h3 h7.up, h4.trans h7.off⟩
theorem LoopW.keep0 {w0 w4 w w' : World} {q p x g n k j : Nat} (h : LoopW w0 w4 w q p x g n k j) (K : Keep (fun _ => False) w w') : LoopW w0 w4 w' q p x g n k j := by
  obtain ⟨F, T, h1, h2, h3, h4, h5⟩ := h
  exact ⟨F, T, h1.keep0 K, h2, h3, Keep.trans h4 (Up.of K), h5.trans (Off.of K)⟩
theorem own_off {w w' : World} {C : Nat} {v : Value} {L : List Bk} (o : OwnL bkE w C 55 v L) (h : ∀ (b : Nat) (c : Array Value), w.heap[b]? = some (Obj.cells c 55 (0, 0)) → w'.heap[b]? = some (Obj.cells c 55 (0, 0))) : OwnL bkE w' C 55 v L := by
  refine ⟨o.1, ?_⟩
  rcases o.2 with hn | ⟨g, cap, cur, rfl, hb, hgg, rest⟩
  · exact .inl hn
  · exact .inr ⟨g, cap, cur, rfl, hb, h g cur hgg, rest⟩
theorem mod_facts (z L : Int) (h1 : 1 ≤ L) (h2 : L ≤ 60) (hz : 0 ≤ z) (hz2 : z ≤ 100000) : ∃ i : Nat, ¬ (L = 0) ∧ Int.tmod z L = (i : Int) ∧ z % L = (i : Int) ∧ wrap64 (i : Int) = (i : Int) ∧ IntKind.i64.wrap (i : Int) = (i : Int) ∧ (i : Int) < L := by
  have a5 := Int.emod_nonneg z (show L ≠ 0 by omega)
  have a6 := Int.emod_lt_of_pos z (show 0 < L by omega)
  obtain ⟨i, hi⟩ := Int.eq_ofNat_of_zero_le a5
  refine ⟨i, by omega, ?_, hi, IntWalk.wrap64_in _ (by omega), IntWalk.i64_in _ (by omega), by omega⟩
  rw [Int.tmod_eq_emod_of_nonneg hz]; exact hi

theorem cells4k {w w' : World} {a b c d i j k l : Nat} {v0 v1 v2 v3 : Value} (h : w.cell? ⟨a, i, none⟩ = some v0 ∧ w.cell? ⟨b, j, none⟩ = some v1 ∧ w.cell? ⟨c, k, none⟩ = some v2 ∧ w.cell? ⟨d, l, none⟩ = some v3) (K : Keep (fun _ => False) w w') :
    w'.cell? ⟨a, i, none⟩ = some v0 ∧ w'.cell? ⟨b, j, none⟩ = some v1 ∧ w'.cell? ⟨c, k, none⟩ = some v2 ∧ w'.cell? ⟨d, l, none⟩ = some v3 := by
  have f : ∀ {b j : Nat} {x : Value}, w.cell? ⟨b, j, none⟩ = some x → w'.cell? ⟨b, j, none⟩ = some x := fun h => (K.cell (block_lt_cell h) id).trans h
  exact ⟨f h.1, f h.2.1, f h.2.2.1, f h.2.2.2⟩

set_option maxRecDepth 100000 in
set_option maxHeartbeats 4000000 in
theorem whole_walk (n : Int) (la : Option Addr) (l c : Nat) (fr : Int) (w : World) (hr : RowsAt w la l [.int .i64, .int .i64, .int .i64, .int .i64, .bool]) (hfr : (Lit.int .u8 fr).wf = true) :
    Calls Try.prog 7 #[.int .i64 n, .slice la l c, .int .u8 fr] w fun e w' => e = .returned (.bool true) ∧ Below w.heap.size w w' := by
  obtain ⟨A, rfl, hA⟩ := acts5_of_rows hr
  obtain ⟨fr, rfl, hfr2⟩ := u8_of hfr
  have HFR := Lib.hid hfr2
  have H1 := Lib.hid hA
  clear hA hr hfr hfr2
  go_enter Try.func7, Try.ntmps7
  go_wp2_with fail
  refine (small_any n _).mono ?_
  rintro e w1 ⟨rfl, rfl⟩
  rcases sm_is n with hb | ⟨m, hm, h8, hm4⟩
  · have HB := Lib.hid hb
    clear hb
    go_wp2_with fail
    refine (made_bad (sm n) HB.out _).mono ?_
    rintro e w2 ⟨rfl, hk2⟩
    have HK2 : Hid (Keep (fun _ => False) w1 w2) := Keep.trans (by (repeat (first | exact Keep.refl _ _ | exact Keep.refl _ _ | refine Keep.drew ?_ | refine Keep.drewN ?_ _ | refine Keep.alloc ?_ _ | refine Keep.setNew ?_ (by omega) _)); done) hk2
    clear hk2
    go_wp2_with fail
    refine (awake_any _).mono ?_
    rintro e w3 ⟨rfl, hk3⟩
    have HK3 : Hid (Keep (fun _ => False) w1 w3) := HK2.out.trans hk3
    clear hk3
    go_wp2_with fail
    refine (awake_any _).mono ?_
    rintro e w4 ⟨rfl, hk4⟩
    have HK4 : Hid (Keep (fun _ => False) w1 w4) := Keep.trans (by (repeat (first | exact HK3.out | exact Keep.refl _ _ | refine Keep.drew ?_ | refine Keep.drewN ?_ _ | refine Keep.alloc ?_ _ | refine Keep.setNew ?_ (by omega) _)); done) hk4
    clear hk4
    go_wp2
    go_ret
    exact ⟨rfl, HK4.out.below⟩
  · rw [hm]
    clear hm
    have HM := Lib.hid (And.intro h8 hm4)
    clear h8 hm4
    go_wp2_with fail
    refine (made_any m HM.out.1 HM.out.2 _).mono ?_
    rintro e w2 ⟨q, p, x, g, rfl, hS, hk2⟩
    have HS2 := Lib.hid hS
    have HK2 := Lib.hid hk2
    clear hS hk2
    go_wp2_with fail
    refine (awake_any _).mono ?_
    rintro e w3 ⟨rfl, hk3⟩
    have HS3 := Lib.hid (HS2.out.keep0 hk3)
    have HK3 := Lib.hid (HK2.out.trans hk3)
    clear hk3 HS2 HK2
    obtain ⟨z0, z1, -⟩ := cells3 HS3.out.2.1
    go_wp2_with (go_at_call 18; refine (blocks_any HS3.out.1.1).mono ?_; rintro e w4 ⟨v4, D4, rfl, hO4, hI4, hl4, hk4⟩; have HO4 := Lib.hid hO4; have HI4 := Lib.hid hI4; have HL4 := Lib.hid hl4; have HK34 := Lib.hid hk4; have HK4 := Lib.hid (HK3.out.trans hk4); have HS4 := Lib.hid (HS3.out.keep0 hk4); clear hO4 hI4 hl4 hk4 z0 z1)
    have HIL : Hid (LoopW w1 w4 w4 q p x g m 0 0) := ⟨_, _, ⟨_, HS4.out, TkP.start m⟩, Nat.le_refl _, Nat.zero_le _, Up.of HK4.out, Off.of (Keep.refl _ _)⟩
    have HNO : Hid (∀ W, Off q w4 W → OwnL bkE W w3.heap.size 55 v4 D4) := fun W h => by
      obtain ⟨v', _, h2⟩ := h _ ⟨_, _, HS4.out.2.1⟩
      exact own_off HO4.out fun b c hb => (h2 b c hb (by simp [Value.ownBlock])).1
    obtain ⟨a4, c4, rfl, -⟩ := HO4.out.slice
    clear HO4 HK34 HS3 HK3
    go_loopw [10] (fun i wr => ∃ k : Nat, k ≤ A.length ∧ k ≤ 60 ∧ i = .int .i64 (k : Int) ∧ LoopW w1 w4 wr q p x g m k 0) (fun i _ => 60 - (intOf i).toNat)
    case atStart => exact ⟨0, by omega, by omega, rfl, HIL.out⟩
    case round =>
      obtain ⟨k, hkA, hk60, rfl, hI⟩ := hrel
      have HI := Lib.hid hI
      clear hI HIL
      by_cases hlt : k < A.length ∧ k < 60
      · obtain ⟨hlt, hlt3⟩ := hlt
        obtain ⟨b, o, rfl, hc⟩ := (H1.out.up (by obtain ⟨F, T, _, _, _, h, _⟩ := HI.out; exact h)) k hlt
        obtain ⟨y, hy⟩ : ∃ y, A[k]'hlt = y := ⟨_, rfl⟩
        rw [hy] at hc
        obtain ⟨c0, c1, c2, c3, c4, hf⟩ := hc
        have HF := Lib.hid hf
        have k0 : (0 : Int) ≤ k := Int.natCast_nonneg k
        have k1 : (k : Int) < A.length := Int.ofNat_lt.mpr hlt
        clear hf hy
        go_wp2_with (go_at_call 17; refine ((HI.out.keep0 (by (repeat (first | exact Keep.refl _ _ | exact Keep.refl _ _ | refine Keep.drew ?_ | refine Keep.drewN ?_ _ | refine Keep.alloc ?_ _ | refine Keep.setNew ?_ (by omega) _)); done)).do (by omega) y.k y.f y.o y.n y.h HF.out).mono ?_; rintro e w5 ⟨rfl, hI5⟩; have HI5 := Lib.hid hI5; clear hI5)
        go_roundw
        case rel => exact ⟨k + 1, by omega, by omega, by go_num, HI5.out⟩
        case measure => simp [intOf]; omega
      · have hkk : k = A.length ∨ (k < A.length ∧ k = 60) := by omega
        clear hlt
        have HI60 : Hid (LoopW w1 w4 wr q p x g m 60 0) := by
          obtain ⟨F, T, h1, h2, h3⟩ := HI.out
          exact ⟨F, T, h1, by omega, h3⟩
        rcases hkk with hkk | ⟨hkl, hkk⟩
        all_goals
          subst hkk
          go_wp2
          go_loopw [11] (fun i w5 => ∃ k : Nat, i = .int .i64 (k : Int) ∧ LoopW w1 w4 w5 q p x g m 60 k) (fun i _ => 2000 - (intOf i).toNat)
          case atStart => exact ⟨0, rfl, HI60.out⟩
          case round =>
            obtain ⟨k, rfl, F, T, ⟨v, hS, hT⟩, hl, hj, hu, hoff⟩ := hrel
            have HS := Lib.hid hS
            have HT := Lib.hid hT
            have HU := Lib.hid hu
            have HOFF := Lib.hid hoff
            have hm1 := HM.out.2
            have hcm := cnt_le F m
            obtain ⟨av, cv, rfl, hav⟩ := hS.2.2.1.slice
            have hk2 : (k : Int) < 5000 := by omega
            have hk0 : (0 : Int) ≤ k := by omega
            have HJ := Lib.hid hj
            have hk24 : k ≤ 1024 := by omega
            have HL60 := Lib.hid hl
            clear hS hT hu hoff hj hcm hav
            obtain ⟨z0, z1, z2⟩ := cells3 HS.out.2.1
            by_cases hT0 : T.length = 0
            · obtain rfl : T = [] := List.eq_nil_of_length_eq_zero hT0
              have hF := HT.out.full HS.out.1.1.fin
              subst hF
              have zx := HS.out.1.2.1.c0
              have HZ : Hid (wr.cell? ⟨q, 0, none⟩ = some (.pointer (some ⟨p, 0, none⟩)) ∧ wr.cell? ⟨q, 1, none⟩ = some (.pointer (some ⟨x, 0, none⟩)) ∧ wr.cell? ⟨q, 2, none⟩ = some (.slice av 0 cv) ∧ wr.cell? ⟨x, 0, none⟩ = some (.slice (some ⟨g, 0, none⟩) m m)) := ⟨z0, z1, z2, zx⟩
              have HO5 : Hid (OwnL bkE wr w3.heap.size 55 (.slice a4 D4.length c4) D4) := HNO.out wr HOFF.out
              have HCU := Lib.hid (cnt_upTo m)
              clear hk24 hk2 hk0
              go_wp2
              go_region_held3 (fun w' => w'.cell? ⟨q, 0, none⟩ = some (.pointer (some ⟨p, 0, none⟩)) ∧ w'.cell? ⟨q, 1, none⟩ = some (.pointer (some ⟨x, 0, none⟩)) ∧ w'.cell? ⟨q, 2, none⟩ = some (.slice av 0 cv) ∧ w'.cell? ⟨x, 0, none⟩ = some (.slice (some ⟨g, 0, none⟩) m m))
                (first | with_reducible exact HZ8.out | with_reducible exact HZ7.out | with_reducible exact HZ6.out | exact HZ.out)
                (first | (go_at_call 18; refine (blocks_any (HS.out.keep0 (by (repeat (first | exact Keep.refl _ _ | exact Keep.refl _ _ | refine Keep.drew ?_ | refine Keep.drewN ?_ _ | refine Keep.alloc ?_ _ | refine Keep.setNew ?_ (by omega) _)); done)).1.1).mono ?_; rintro e w6 ⟨v6, D6, rfl, hO6, hI6, hl6, hk6⟩; have HO6 := Lib.hid hO6; have HI6 := Lib.hid hI6; have HK56 : Hid (Keep (fun _ => False) wr w6) := Keep.trans (by (repeat (first | exact Keep.refl _ _ | exact Keep.refl _ _ | refine Keep.drew ?_ | refine Keep.drewN ?_ _ | refine Keep.alloc ?_ _ | refine Keep.setNew ?_ (by omega) _)); done) hk6; have HZ6 := Lib.hid (cells4k HZ.out HK56.out); clear hO6 hI6 hl6 hk6) | (go_at_call 21; refine (two_same HI4.out HI6.out (HO5.out.keep HK56.out (fun _ _ => id)) HO6.out HL4.out).mono ?_; rintro e w7 ⟨rfl, hk7⟩; have HK7 : Hid (Keep (fun _ => False) wr w7) := HK56.out.trans hk7; have HZ7 := Lib.hid (cells4k HZ.out HK7.out); clear hk7) | (go_at_call 23; refine (two_free (HS.out.keep0 (by (repeat (first | exact HK7.out | exact Keep.refl _ _ | refine Keep.drew ?_ | refine Keep.drewN ?_ _ | refine Keep.alloc ?_ _ | refine Keep.setNew ?_ (by omega) _)); done)).1).mono ?_; rw [HCU.out]; rintro e w8 ⟨rfl, hk8⟩; have HK8 : Hid (Keep (fun _ => False) wr w8) := Keep.trans (by (repeat (first | exact HK7.out | exact Keep.refl _ _ | refine Keep.drew ?_ | refine Keep.drewN ?_ _ | refine Keep.alloc ?_ _ | refine Keep.setNew ?_ (by omega) _)); done) hk8; have HZ8 := Lib.hid (cells4k HZ.out HK8.out); clear hk8))
              all_goals
                go_wp2
                go_ret
                exact ⟨rfl, Up.below (Keep.trans HU.out (Up.of (by (repeat (first | exact HK8.out | exact Keep.refl _ _ | refine Keep.drew ?_ | refine Keep.drewN ?_ _ | refine Keep.alloc ?_ _ | refine Keep.setNew ?_ (by omega) _)); done)))⟩
            · have hL1 : (1 : Int) ≤ T.length := by omega
              have hL0 : (0 : Int) < T.length := by omega
              have hL2 : decide ((T.length : Int) > 0) = true := by simp; omega
              obtain ⟨k7, hk7⟩ : ∃ k7 : Int, (k : Int) * 7 = k7 := ⟨_, rfl⟩
              have hw7 : IntKind.i64.wrap ((k : Int) * 7) = k7 := (IntWalk.i64_in _ (by omega)).trans hk7
              have hfr := HFR.out
              obtain ⟨z, hz⟩ : ∃ z : Int, (fr : Int) + k7 = z := ⟨_, rfl⟩
              have hwz : IntKind.i64.wrap ((fr : Int) + k7) = z := (IntWalk.i64_in _ (by omega)).trans hz
              obtain ⟨i, m1, m2, m3, m4, m5, m6⟩ := mod_facts z T.length hL1 (by omega) (by omega) (by omega)
              have hfw : IntKind.i64.wrap (fr : Int) = (fr : Int) := IntWalk.i64_in _ (by omega)
              have hi : i < T.length := Int.ofNat_lt.mp m6
              have HL5 : Hid (T.length ≤ 5000) := Nat.le_trans HL60.out (by decide)
              clear hk7 hz
              go_wp2_with (go_at_call 28; refine (wgive_any i _ ⟨_, HS.out.keep0 (by (repeat (first | exact Keep.refl _ _ | exact Keep.refl _ _ | refine Keep.drew ?_ | refine Keep.drewN ?_ _ | refine Keep.alloc ?_ _ | refine Keep.setNew ?_ (by omega) _)); done), HT.out⟩ HL5.out hi).mono ?_; rintro e w6 ⟨rfl, F', T', hw6, hl6, hc6, hu6⟩; have HW6 := Lib.hid hw6; have HL6 := Lib.hid hl6; have HC6 := Lib.hid hc6; have HU6 := Lib.hid hu6; clear hw6 hl6 hc6 hu6)
              go_roundw
              case rel => exact ⟨k + 1, by go_num, F', T', HW6.out, Nat.le_trans HL6.out HL60.out, Nat.lt_of_le_of_lt HJ.out HC6.out, Keep.trans HU.out HU6.out.up, HOFF.out.trans HU6.out.off⟩
              case measure => (clear hw7 hwz m1 m2 m3 m4 m5 hfw; simp [intOf]; omega)

end Go.Proofs.Ytcbkfilhgeeebaa
