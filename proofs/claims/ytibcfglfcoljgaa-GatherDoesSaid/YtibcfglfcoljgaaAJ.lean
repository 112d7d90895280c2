/- Gather: GatherDoes, the walk. -/
import Derived.Test.YtibcfglfcoljgaaAI
set_option linter.unusedVariables false
set_option linter.unusedSimpArgs false
namespace Go.Proofs.Ytibcfglfcoljgaa
open Go.RowKit Go.Own

theorem take_again {w W : World} {p q : Nat} {m r : Int} {i : Nat} (h : St w W p q m [] [] [] r i) : Calls Try.prog 10 #[.pointer (some ⟨p, 0, none⟩)] W fun e w' => e = .returned (.tuple #[.slice none 0 0, .slice none 0 0]) ∧ Keep (fun _ => False) W w' := by
  obtain ⟨v, u, pv, bv, h1, -, -⟩ := h.two
  exact take_empty _ p m v u r W h1

set_option maxRecDepth 100000 in
set_option maxHeartbeats 4000000 in
theorem does_walk (m : Int) (la : Option Addr) (l c : Nat) (w : World) (hr : RowsAt w la l [.int .i64, .int .i64, .int .i64, .int .i64, .int .i64, .int .i64]) :
    Calls Try.prog 3 #[.int .i64 m, .slice la l c] w fun e w' => e = .returned (.bool true) ∧ Below w.heap.size w w' := by
  obtain ⟨A, rfl, hA⟩ := actsG_of_rows hr
  have H1 := Lib.hid hA
  clear hA hr
  by_cases hm : m < 1 ∨ 256 < m
  · have HM := Lib.hid hm
    clear hm
    go_enter Try.func3, Try.ntmps3
    go_wp2_with fail
    refine (made_bad m HM.out _ _).mono ?_
    rintro e w1 ⟨rfl, hk1⟩
    have HK1 := Lib.hid hk1
    clear hk1
    go_wp2_with fail
    refine (awake_any _).mono ?_
    rintro e w2 ⟨rfl, hk2⟩
    have HK2 := Lib.hid (HK1.out.trans hk2)
    clear hk2
    go_wp2_with fail
    refine (awake_any _).mono ?_
    rintro e w3 ⟨rfl, hk3⟩
    have HK3 := Lib.hid (HK2.out.trans hk3)
    clear hk3
    go_wp2
    go_ret
    exact ⟨rfl, HK3.out.below⟩
  · have h0 : 1 ≤ m := by omega
    have h1 : m ≤ 256 := by omega
    have HMA := Lib.hid (made_any m h0 h1 la A c w H1.out)
    clear hm h0 h1
    go_enter Try.func3, Try.ntmps3
    go_wp2_with fail
    refine HMA.out.mono ?_
    rintro e w1 ⟨p, q, rfl, ⟨L, P, Q, r, i, hi, hS⟩, hp, hq⟩
    have HS := Lib.hid hS
    have HPQ := Lib.hid (And.intro hp hq)
    clear hS hp hq
    go_wp2_with fail
    refine (awake_any _).mono ?_
    rintro e w2 ⟨rfl, hk2⟩
    have HS2 := Lib.hid (HS.out.on hk2)
    have hq40 := HS.out.lq
    clear hk2
    go_wp2_with fail
    refine (pair_take HS2.out (by omega) HPQ.out.1 HPQ.out.2).mono ?_
    rintro e w3 ⟨v, u, rfl, hk3, hx3⟩
    have HX3 := Lib.hid hx3
    clear hk3 hx3
    go_wp2_with fail
    refine (HX3.out _ (by (repeat (first | exact Keep.refl _ _ | exact Keep.refl _ _ | refine Keep.drew ?_ | refine Keep.drewN ?_ _ | refine Keep.alloc ?_ _ | refine Keep.setNew ?_ (by omega) _)); done)).mono ?_
    rintro e w4 ⟨vo, bo, rfl, -, hT4⟩
    have HT4 := Lib.hid hT4
    clear hT4
    have HS4 : Hid (St w w4 p q m [] [] [] (takR L.length Q.length r) (i + 1)) := by obtain ⟨D, _, _, _, _, _, h⟩ := HT4.out; exact h
    go_wp2_with fail
    refine (take_again HS4.out).mono ?_
    rintro e w5 ⟨rfl, hk5⟩
    have HT5 := Lib.hid (HT4.out.keep0 hk5)
    clear hk5 HT4 HS4
    obtain ⟨D, hD0, hD1, hD2, hD3, hD4, hS5⟩ := HT5.out
    have HS5 := Lib.hid hS5
    have HD := Lib.hid (And.intro hD1 (And.intro hD2 (And.intro hD3 hD4)))
    obtain ⟨v5, u5, pv5, bv5, hH5, hX5, -⟩ := hS5.two
    obtain ⟨-, -, -, e3⟩ := hX5.cs
    have HH5 := Lib.hid hH5
    obtain ⟨r5, hr5⟩ : ∃ r5, takR L.length Q.length r = r5 := ⟨_, rfl⟩
    rw [hr5] at e3 HH5
    clear hD1 hD2 hD3 hD4 hS5 hH5 hX5 hr5
    go_wp2_with fail
    go_region_held3 (fun w' => w'.cell? ⟨q, 3, none⟩ = some (.int .i64 r5))
      (first | (with_reducible exact e3) | (with_reducible exact f3) | (with_reducible exact g3) | exact e3)
      (first | (go_at_call 12; refine (same_fl _ _ _ _ D _ (HD.out.1.keep (by (repeat (first | exact Keep.refl _ _ | exact Keep.refl _ _ | refine Keep.drew ?_ | refine Keep.drewN ?_ _ | refine Keep.alloc ?_ _ | refine Keep.setNew ?_ (by omega) _)); done) (fun _ _ => id)) (HD.out.2.1.keep (by (repeat (first | exact Keep.refl _ _ | exact Keep.refl _ _ | refine Keep.drew ?_ | refine Keep.drewN ?_ _ | refine Keep.alloc ?_ _ | refine Keep.setNew ?_ (by omega) _)); done) (fun _ _ => id)) (by omega)).mono ?_; rintro e w6 ⟨rfl, hk6⟩; have HK6 : Hid (Keep (fun _ => False) w5 w6) := Keep.trans (by (repeat (first | exact Keep.refl _ _ | exact Keep.refl _ _ | refine Keep.drew ?_ | refine Keep.drewN ?_ _ | refine Keep.alloc ?_ _ | refine Keep.setNew ?_ (by omega) _)); done) hk6; have f3 := (HK6.out.cell (block_lt_cell e3) id).trans e3; clear hk6) | (go_at_call 13; refine (same_bk _ _ _ _ Q _ (HD.out.2.2.1.keep HK6.out (fun _ _ => id)) (HD.out.2.2.2.keep HK6.out (fun _ _ => id)) (by omega)).mono ?_; rintro e w7 ⟨rfl, hk7⟩; have HK7 : Hid (Keep (fun _ => False) w5 w7) := HK6.out.trans hk7; have g3 := (HK7.out.cell (block_lt_cell e3) id).trans e3; clear hk7) | (go_at_call 14; refine (rounds_some _ p m v5 u5 [] [] r5 _ (HH5.out.keep0 HK7.out)).mono ?_; rintro e w8 ⟨rfl, hw8⟩; rw [← hw8]; clear hw8))
    go_wp2
    go_ret
    exact ⟨rfl, (HS5.out.keep.trans HK7.out).below⟩

end Go.Proofs.Ytibcfglfcoljgaa
