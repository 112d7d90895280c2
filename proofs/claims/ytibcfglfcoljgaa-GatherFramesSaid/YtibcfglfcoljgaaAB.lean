/- Gather: GatherFrames, the walk. -/
import Derived.Test.YtibcfglfcoljgaaAA
import Derived.Deep.DeepCutAuto
import Derived.Deep.Cut
import Derived.Deep.CutRange
set_option linter.unusedVariables false
set_option linter.unusedSimpArgs false
namespace Go.Proofs.Ytibcfglfcoljgaa
open Go.RowKit Go.Own

/-- The cells of one call. -/
abbrev C6 (b o k : Nat) (x : Ac) (w : World) : Prop := w.cell? ⟨b, o + k * 6, none⟩ = some (.int .i64 x.k) ∧ w.cell? ⟨b, o + k * 6 + 1, none⟩ = some (.int .i64 x.s) ∧ w.cell? ⟨b, o + k * 6 + 1 + 1, none⟩ = some (.int .i64 x.p) ∧ w.cell? ⟨b, o + k * 6 + 1 + 1 + 1, none⟩ = some (.int .i64 x.n) ∧ w.cell? ⟨b, o + k * 6 + 1 + 1 + 1 + 1, none⟩ = some (.int .i64 x.f) ∧ w.cell? ⟨b, o + k * 6 + 1 + 1 + 1 + 1 + 1, none⟩ = some (.int .i64 x.o)
theorem C6_keep {b o k : Nat} {x : Ac} {w w' : World} (h : C6 b o k x w) (K : Keep (fun _ => False) w w') : C6 b o k x w' := by
  have f : ∀ {i : Nat} {x : Value}, w.cell? ⟨b, i, none⟩ = some x → w'.cell? ⟨b, i, none⟩ = some x := fun h => (K.cell (block_lt_cell h) id).trans h
  obtain ⟨c0, c1, c2, c3, c4, c5⟩ := h
  exact ⟨f c0, f c1, f c2, f c3, f c4, f c5⟩
/-- A call lies whole at n. -/
abbrev A6 (w : World) (n : Nat) (x : Ac) : Prop := w.cell? ⟨n, 0, none⟩ = some (.int .i64 x.k) ∧ w.cell? ⟨n, 1, none⟩ = some (.int .i64 (acF x).s) ∧ w.cell? ⟨n, 2, none⟩ = some (.int .i64 (acF x).p) ∧ w.cell? ⟨n, 3, none⟩ = some (.int .i64 (acF x).n) ∧ w.cell? ⟨n, 4, none⟩ = some (.int .i64 x.f) ∧ w.cell? ⟨n, 5, none⟩ = some (.int .i64 x.o)

set_option maxRecDepth 100000 in
set_option maxHeartbeats 4000000 in
theorem gframes_walk (la : Option Addr) (l c : Nat) (w : World) (hr : RowsAt w la l [.int .i64, .int .i64, .int .i64, .int .i64, .int .i64, .int .i64]) :
    Calls Try.prog 5 #[.slice la l c] w fun e w' => e = .returned (.bool true) ∧ Below w.heap.size w w' := by
  obtain ⟨A, rfl, hA⟩ := actsG_of_rows hr
  have H1 := Lib.hid hA
  clear hA hr
  go_enter Try.func5, Try.ntmps5
  go_wp2_with fail
  refine (new_any 4 (by omega) (by omega) w.heap.size _ (Nat.le_refl _)).mono ?_
  rintro e w1 ⟨p, rfl, hR, hp, hk⟩
  have HR1 := Lib.hid hR
  have HK1 := Lib.hid hk
  have HPB := Lib.hid hp
  clear hR hk hp
  go_wp2_with fail
  refine (awake_any _).mono ?_
  rintro e w3 ⟨rfl, hk⟩
  have HI0 : Hid (FrI w w3 p (.slice none 0 0) (.slice none 0 0) [] [] 0) :=
    ⟨⟨_, _, [], 0, HR1.out.keep0 hk, GoodL.nil, by simp, by simp, fun x hx => by cases hx⟩, OwnL.nil _ _ _, OwnL.nil _ _ _, fun x hx => by (cases hx), List.Pairwise.nil, by simp, by simp, HK1.out.trans hk⟩
  clear hk HR1 HK1
  go_wp2
  go_loopw [5, 6, 7] (fun vi vo i wr => ∃ k : Nat, k ≤ A.length ∧ k ≤ 40 ∧ i = .int .i64 k ∧ ∃ O Q, FrI w wr p vi vo O Q k) (fun _ _ i _ => 40 - (intOf i).toNat)
  case atStart => exact ⟨0, by omega, by omega, rfl, [], [], HI0.out⟩
  case round =>
    obtain ⟨k, hkA, hk40, rfl, O, Q, hI⟩ := hrel
    have HI := Lib.hid hI
    clear hI
    by_cases hlt : k < A.length ∧ k < 40
    · obtain ⟨hlt, hlt40⟩ := hlt
      obtain ⟨x, hx⟩ : ∃ x, A[k]'hlt = x := ⟨_, rfl⟩
      have HX := Lib.hid hx
      obtain ⟨b, o, rfl, hc⟩ := acts_two (H1.out.keep HI.out.keep) hlt hlt HX.out HX.out
      have HC : Hid (C6 b o k x wr) := Lib.hid ⟨hc.1, hc.2.1, hc.2.2.1, hc.2.2.2.1, hc.2.2.2.2.1, hc.2.2.2.2.2.1⟩
      clear hx hc
      have k0 : (0 : Int) ≤ k := Int.natCast_nonneg k
      have k1 : (k : Int) < A.length := Int.ofNat_lt.mpr hlt
      obtain ⟨c0, c1, c2, c3, c4, c5⟩ := HC.out
      have d2 : wr.cell? ⟨b, o + k * 6 + 2, none⟩ = some (.int .i64 x.p) := c2
      have d3 : wr.cell? ⟨b, o + k * 6 + 3, none⟩ = some (.int .i64 x.n) := c3
      have d4 : wr.cell? ⟨b, o + k * 6 + 4, none⟩ = some (.int .i64 x.f) := c4
      have d5 : wr.cell? ⟨b, o + k * 6 + 5, none⟩ = some (.int .i64 x.o) := c5
      go_wp2_with fail
      refine (light_ag x _).mono ?_
      rintro e w4 ⟨rfl, hk4⟩
      have HK4 : Hid (Keep (fun _ => False) wr w4) := Keep.trans (by (repeat (first | exact Keep.refl _ _ | exact Keep.refl _ _ | refine Keep.drew ?_ | refine Keep.drewN ?_ _ | refine Keep.alloc ?_ _ | refine Keep.setNew ?_ (by omega) _)); done) hk4
      clear hk4 c0 c1 c2 c3 c4 c5 d2 d3 d4 d5
      by_cases hp3 : x.k = 0 ∨ x.k = 1 ∨ x.k = 2
      · rcases hp3 with h | h | h
        all_goals (rw [h])
        all_goals
          go_wp2_with fail
          refine (fr_pages (acF x).s (acF x).p (acF x).n hk40 HPB.out (HI.out.on (Keep.trans HK4.out (by (repeat (first | exact Keep.refl _ _ | exact Keep.refl _ _ | refine Keep.drew ?_ | refine Keep.drewN ?_ _ | refine Keep.alloc ?_ _ | refine Keep.setNew ?_ (by omega) _)); done)))).mono ?_
          rintro e w5 ⟨rfl, hI5⟩
          have HI5 := Lib.hid hI5
          clear hI5
          go_wp2
          go_roundw
          case rel => exact ⟨k + 1, hlt, hlt40, by go_num, O, Q, HI5.out⟩
          case measure => simp [intOf]; omega
      · by_cases hp4 : x.k = 3 ∨ x.k = 4
        · have HI4 := Lib.hid (HI.out.on (w4 := w4) HK4.out)
          by_cases hok : okB ⟨x.f, x.o⟩ ∧ Q.any (ov ⟨x.f, x.o⟩) = false
          · rcases hp4 with h | h
            all_goals (rw [h])
            all_goals
              go_wp2_with fail
              refine (fr_yes ⟨x.f, x.o⟩ hok.1 hok.2 hk40 HPB.out (HI.out.on (Keep.trans HK4.out (by (repeat (first | exact Keep.refl _ _ | exact Keep.refl _ _ | refine Keep.drew ?_ | refine Keep.drewN ?_ _ | refine Keep.alloc ?_ _ | refine Keep.setNew ?_ (by omega) _)); done)))).mono ?_
              rintro e w5 ⟨rfl, hI5, hk5⟩
              have hpn : w4.heap.size ≠ p := by
                obtain ⟨v, u, L, r, hR, _⟩ := HI.out.rep
                exact Nat.ne_of_gt (Nat.lt_of_lt_of_le (block_lt hR.hp) HK4.out.size)
              have e4 : w5.cell? ⟨w4.heap.size, 4, none⟩ = some (.int .i64 x.f) := by
                rw [hk5.cell (by simp) hpn]; simp [go_sem]
              have e5 : w5.cell? ⟨w4.heap.size, 5, none⟩ = some (.int .i64 x.o) := by
                rw [hk5.cell (by simp) hpn]; simp [go_sem]
              have HI5 := Lib.hid hI5
              clear hI5 hk5 hpn
              have HLN : Hid ((O ++ Q).length ≤ 40) := by unfold Hid; have := HI5.out.len; simp; omega
              obtain ⟨X, hX⟩ : ∃ X, O ++ Q = X := ⟨_, rfl⟩
              have HXX := Lib.hid hX
              have hix := HI5.out.ins
              rw [hX] at HLN hix
              clear hX
              obtain ⟨ai, ci, hvi, -⟩ := hix.slice
              subst hvi
              have HIX := Lib.hid hix
              clear hix
              go_wp2_with (at_builtin; go_loud (refine wpl_appF et29 rfl (.tmp 116) (.tmp 119) rfl w.heap.size (.slice ai X.length ci) X.length (bkE.cs X) rfl (OwnL.keep HIX.out (Keep.alloc (Keep.refl (fun _ => False) w5) _) (fun _ _ => id)) ⟨w5.heap.size, 0, none⟩ 1 1 (bkE.c ⟨x.f, x.o⟩) rfl rfl (new_cells (heap_alloc_new w5 _)) (bkE.one _) (by have := HLN.out; unfold maxLen; omega) (by have := HLN.out; omega) (by have := HI5.out.keep.size; simp; omega) ?_; intro v6 w6 hown6 hgrow6 hf6; have HI6 : Hid (FrI w w6 p v6 _ O (Q ++ [⟨x.f, x.o⟩]) (k + 1)) := (fr_app HI5.out (Keep.grown (Keep.alloc (Keep.refl _ w5) _) hgrow6 (fun z h1 h2 => h1)) (by unfold OwnL; rw [← List.append_assoc, HXX.out, List.length_append (bs := [_]), bkE.cs_append X, bkE.cs_one]; exact hown6) (fun z hz => (hf6 z hz).imp id (fun h => by simp at h; omega))); clear hown6 hgrow6 hf6))
              go_roundw
              case rel => exact ⟨k + 1, hlt, hlt40, by go_num, O, _, HI6.out⟩
              case measure => simp [intOf]; omega
          · have HNO := Lib.hid hok
            clear hok
            rcases hp4 with h | h
            all_goals (rw [h])
            all_goals
              go_wp2_with fail
              refine (fr_no ⟨x.f, x.o⟩ HNO.out hk40 HPB.out (HI.out.on (Keep.trans HK4.out (by (repeat (first | exact Keep.refl _ _ | exact Keep.refl _ _ | refine Keep.drew ?_ | refine Keep.drewN ?_ _ | refine Keep.alloc ?_ _ | refine Keep.setNew ?_ (by omega) _)); done)))).mono ?_
              rintro e w5 ⟨z, hz, rfl, hI5⟩
              have HI5 := Lib.hid hI5
              clear hI5
              rcases hz with rfl | rfl | rfl
            all_goals
              go_wp2
              go_roundw
              case rel => exact ⟨k + 1, hlt, hlt40, by go_num, O, Q, HI5.out⟩
              case measure => simp [intOf]; omega
        · have j0 : (x.k == 0) = false := by rw [beq_eq_false_iff_ne]; omega
          have j1 : (x.k == 1) = false := by rw [beq_eq_false_iff_ne]; omega
          have j2 : (x.k == 2) = false := by rw [beq_eq_false_iff_ne]; omega
          have j3 : (x.k == 3) = false := by rw [beq_eq_false_iff_ne]; omega
          have j4 : (x.k == 4) = false := by rw [beq_eq_false_iff_ne]; omega
          clear hp3 hp4
          go_wp2_with fail
          refine (fr_take hk40 HPB.out (HI.out.on (Keep.trans HK4.out (by (repeat (first | exact Keep.refl _ _ | exact Keep.refl _ _ | refine Keep.drew ?_ | refine Keep.drewN ?_ _ | refine Keep.alloc ?_ _ | refine Keep.setNew ?_ (by omega) _)); done)))).mono ?_
          rintro e w5 ⟨v', u', rfl, hI5⟩
          have HI5 := Lib.hid hI5
          clear hI5
          obtain ⟨a5, c5, hu5, hag5⟩ := HI5.out.tk.slice
          subst hu5
          obtain ⟨ao, co, hvo, -⟩ := HI5.out.outs.slice
          subst hvo
          have HAG := Lib.hid hag5
          clear hag5 j0 j1 j2 j3 j4
          have HQ40 : Hid (Q.length ≤ 41 ∧ O.length ≤ 41) := by unfold Hid; have := HI5.out.len; omega
          have hq40 := HQ40.out.1
          go_wp2
          go_loopw [11] (fun i w6 => ∃ q : Nat, q ≤ Q.length ∧ i = .int .i64 q ∧ Keep (fun _ => False) w5 w6) (fun i _ => Q.length - (intOf i).toNat)
          case atStart => exact ⟨0, by omega, rfl, Keep.refl _ _⟩
          case round =>
            obtain ⟨q, hq, rfl, hkq⟩ := hrel
            have HKQ := Lib.hid hkq
            clear hkq
            by_cases hql : q < Q.length
            · obtain ⟨g5, rfl⟩ := HAG.out (by intro e; rw [e] at hql; simp at hql)
              go_wp2
              go_loopw [12] (fun i w7 => ∃ j : Nat, j ≤ q ∧ i = .int .i64 j ∧ Keep (fun _ => False) w5 w7) (fun i _ => q - (intOf i).toNat)
              case atStart => exact ⟨0, by omega, rfl, HKQ.out⟩
              case round =>
                obtain ⟨j, hj, rfl, hkj⟩ := hrel
                have HKJ := Lib.hid hkj
                clear hkj
                by_cases hjq : j < q
                · have hjl : j < Q.length := by omega
                  have HO := Lib.hid (HI5.out.tk.keep HKJ.out (fun _ _ => id))
                  obtain ⟨c0, c1⟩ := bk_cells HO.out hjl
                  obtain ⟨d0, d1⟩ := bk_cells HO.out hql
                  have hap := apart_get HI5.out.apart hjq hql
                  have hrg := HI5.out.range _ (List.getElem_mem hjl)
                  have hrz := HI5.out.range _ (List.getElem_mem hql)
                  obtain ⟨y, hy⟩ : ∃ y, Q[j]'hjl = y := ⟨_, rfl⟩
                  obtain ⟨z, hz⟩ : ∃ z, Q[q]'hql = z := ⟨_, rfl⟩
                  rw [hy] at c0 c1 hap hrg
                  rw [hz] at d0 d1 hap hrz
                  clear hy hz
                  obtain ⟨⟨r1, r2, r3, r4⟩, -⟩ := hrg
                  obtain ⟨⟨-, -, s3, s4⟩, -⟩ := hrz
                  obtain ⟨n, hn⟩ : ∃ n : Nat, (n : Int) = y.o := ⟨y.o.toNat, by omega⟩
                  have hn8 : n ≤ 8 := by omega
                  obtain ⟨m, hm⟩ : ∃ m : Int, m = (2 : Int) ^ n := ⟨_, rfl⟩
                  have hszy : (sz y : Int) = m := by rw [hm]; unfold sz; rw [← hn]; simp
                  rw [hszy] at hap r4
                  rw [← hn] at c1
                  have hsb : Hid (∀ W, Calls Try.prog 19 #[.int .i64 (n : Int)] W fun e w' => e = .returned (.int .i64 m) ∧ w' = W) := fun W => by rw [hm]; exact size_any n hn8 W
                  have hwm : IntKind.i64.wrap (y.f + m) = y.f + m := IntWalk.i64_in _ (by omega)
                  have k0' : (0 : Int) ≤ q := Int.natCast_nonneg q
                  have k1' : (q : Int) < Q.length := Int.ofNat_lt.mpr hql
                  have m0' : (0 : Int) ≤ j := Int.natCast_nonneg j
                  have m1' : (j : Int) < Q.length := Int.ofNat_lt.mpr hjl
                  have q1' : (j : Int) < (q : Int) := Int.ofNat_lt.mpr hjq
                  clear hm hszy r4 s4 r1 r2 hn
                  by_cases hle : y.f ≤ z.f
                  · have hlt2 : ¬ z.f < y.f + m := fun h => hap ⟨hle, h⟩
                    have b1 : decide (y.f ≤ z.f) = true := decide_eq_true hle
                    have b2 : decide (z.f < y.f + m) = false := decide_eq_false hlt2
                    clear hap hle hlt2
                    go_wp2
                    go_quiet ((go_at_call 19; exact Calls.quiet_of_same (hsb.out _)))
                    go_wp2
                    go_roundw
                    case rel => exact ⟨j + 1, by omega, by go_num, HKJ.out.drewN _⟩
                    case measure => simp [intOf]; omega
                  · have b1 : decide (y.f ≤ z.f) = false := decide_eq_false hle
                    clear hap hle
                    go_wp2
                    go_quiet ((go_at_call 19; exact Calls.quiet_of_same (hsb.out _)))
                    go_wp2
                    go_roundw
                    case rel => exact ⟨j + 1, by omega, by go_num, HKJ.out.drewN _⟩
                    case measure => simp [intOf]; omega
                · obtain rfl : j = q := by omega
                  go_wp2
                  go_roundw
                  case rel => exact ⟨j + 1, by omega, by go_num, HKJ.out⟩
                  case measure => simp [intOf]; omega
            · have HI6 := Lib.hid (HI5.out.on HKQ.out)
              obtain rfl : q = Q.length := by omega
              go_wp2_with (at_builtin; go_loud (refine wpl_appG et29 rfl (.tmp 93) (.tmp 94) rfl w.heap.size _ O.length (bkE.cs O) rfl HI6.out.outs _ Q.length (bkE.cs Q) rfl (OwnL.reads HI6.out.tk) (bkE.cs_one_cell Q) (by have := HQ40.out; unfold maxLen; omega) (by have := HQ40.out; omega) HI6.out.keep.size ?_; intro v7 w7 hown7 hgrow7 hf7; have HI7 : Hid (FrI w w7 p _ v7 (O ++ Q) [] (k + 1)) := (fr_out HI6.out (Keep.grown (Keep.refl _ _) hgrow7 (fun z h1 h2 => h1)) (by unfold OwnL; rw [List.length_append, bkE.cs_append]; exact hown7) hf7); clear hown7 hgrow7 hf7))
              go_roundw
              case rel => exact ⟨k + 1, hlt, hlt40, by go_num, O ++ Q, [], HI7.out⟩
              case measure => simp [intOf]; omega
    · have hkk : k = A.length ∨ (k < A.length ∧ k = 40) := by omega
      clear hlt
      rcases hkk with hkk | ⟨hkl, hkk⟩
      all_goals
        subst hkk
        go_wp2_with fail
        refine (fr_take hk40 HPB.out (HI.out.on (by (repeat (first | exact Keep.refl _ _ | exact Keep.refl _ _ | refine Keep.drew ?_ | refine Keep.drewN ?_ _ | refine Keep.alloc ?_ _ | refine Keep.setNew ?_ (by omega) _)); done))).mono ?_
        rintro e w5 ⟨v', u', rfl, hI5⟩
        have HI5 := Lib.hid hI5
        clear hI5
        obtain ⟨a5, c5, hu5, -⟩ := HI5.out.tk.slice
        subst hu5
        obtain ⟨ao, co, hvo, -⟩ := HI5.out.outs.slice
        subst hvo
        have HQ40 : Hid (Q.length ≤ 41 ∧ O.length ≤ 41) := by unfold Hid; have := HI5.out.len; omega
        go_wp2_with (first | (at_builtin; go_loud (refine wpl_appG et29 rfl (.tmp 126) (.tmp 127) rfl w.heap.size _ O.length (bkE.cs O) rfl HI5.out.outs _ Q.length (bkE.cs Q) rfl (OwnL.reads HI5.out.tk) (bkE.cs_one_cell Q) (by have := HQ40.out; unfold maxLen; omega) (by have := HQ40.out; omega) HI5.out.keep.size ?_; intro v7 w7 hown7 hgrow7 hf7; have HI7 : Hid (FrI w w7 p _ v7 (O ++ Q) [] _) := (fr_out HI5.out (Keep.grown (Keep.refl _ _) hgrow7 (fun z h1 h2 => h1)) (by unfold OwnL; rw [List.length_append, bkE.cs_append]; exact hown7) hf7); have HIN : Hid (OwnL bkE w7 w.heap.size 48 _ (O ++ Q)) := (by have := HI7.out.ins; rw [List.append_nil] at this; exact this); clear hown7 hgrow7 hf7)) | (go_at_call 13; refine (same_bk w.heap.size w.heap.size _ v7 (O ++ Q) w7 HIN.out HI7.out.outs (by have := HQ40.out; simp; omega)).mono ?_; rintro e w8 ⟨rfl, hk8⟩; have HK8 := Lib.hid (HI7.out.keep.trans hk8); clear hk8))
        go_ret
        exact ⟨rfl, HK8.out.below⟩

end Go.Proofs.Ytibcfglfcoljgaa
