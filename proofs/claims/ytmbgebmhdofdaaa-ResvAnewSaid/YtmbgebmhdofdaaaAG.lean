/- ResvOldest: the walk. -/
import Derived.Test.YtmbgebmhdofdaaaAE
set_option linter.unusedVariables false
set_option linter.unusedSimpArgs false
namespace Go.Proofs.Ytmbgebmhdofdaaa
open Go.RowKit Go.Own

/-- Both, with m reservations. -/
def TwoL (w : World) (B p q n m : Nat) : Prop := ∃ v vx L X T, TwoV w B p q n v vx L X T ∧ L.length = m
theorem TwoL.keep0 {w w' : World} {B p q n m : Nat} (h : TwoL w B p q n m) (k : Keep (fun _ => False) w w') : TwoL w' B p q n m := by
  obtain ⟨v, vx, L, X, T, h, hl⟩ := h
  exact ⟨v, vx, L, X, T, h.keep0 k, hl⟩

theorem break_in {w : World} {B p q n m : Nat} {v vx : Value} {L : List Rv} {X : List Ox} {T : Int} (h : TwoV w B p q n v vx L X T) (hm : L.length = m + 1) {x : Rv} (hx : x ∈ L) (hB : B ≤ w.heap.size) : ∃ (M : List Int), M.length ≤ 8 ∧
    Calls Try.prog 16 #[.pointer (some ⟨p, 0, none⟩), .int .i64 x.s, .int .i64 x.p] w fun e w1 => ∃ u, e = .returned (.tuple #[u, .int .i64 0]) ∧ OwnL inE w1 w.heap.size 3 u M ∧ KB B w w1 ∧
      Nx (fun w1' => Calls Try.prog 20 #[.pointer (some ⟨q, 0, none⟩), .int .i64 x.s, .int .i64 x.p] w1' fun e w2 => ∃ u', e = .returned (.tuple #[u', .int .i64 0]) ∧ OwnL inE w2 w.heap.size 3 u' M ∧ OwnL inE w2 w.heap.size 3 u M ∧ KB B w1' w2 ∧ TwoL w2 B p q n m) w1 := by
  have hok := (h.iv.okL x hx).1
  obtain ⟨_, x0, x1, x8, _⟩ := id hok
  have hy : i64R x.p := ⟨by omega, by omega⟩
  have hxp : x.p / 8 * 8 = x.p := by omega
  rcases h.iv.find x.s x.p with ⟨h1, h2⟩ | ⟨k, i, j, h1, h2, hk, hi, he, hs, hp, hyj, hj, hym, hok, hb⟩
  · exfalso
    rw [hxp] at h1
    rcases whI_cases L x.s x.p with ⟨_, h3⟩ | ⟨k, h3, _⟩
    · exact h3 x hx ⟨rfl, rfl⟩
    · omega
  · have eb : L[k].b = X[i].b := by rw [← he]; rfl
    have ef : L[k].f = X[i].f := by rw [← he]; rfl
    obtain ⟨_, k0, k1', k8, f0, f1, f8⟩ := id hok
    refine ⟨opN L[k].f L[k].b 8, opN_len _ _ _, (breakL_yes B p k v L L[k] x.s x.p hy h1 hk rfl (by omega) (by omega) w hB h.rc).mono ?_⟩
    rintro e w1 ⟨v', u, rfl, hC, hO, hk1, hv1⟩
    refine ⟨u, rfl, hO, h.rc.ge h.bp hk1, fun w1' kk => ?_⟩
    have hX := (h.rx.past h.rc hk1).keep0 kk
    have hC' := hC.keep0 kk
    refine (breakX_yes B q i vx X T x.s x.p X[i] w1' (by have := hk1.size; have := kk.size; omega) hX h2 hi rfl).mono ?_
    rintro e w2 ⟨u', vx', rfl, hX2, hO2, hk2, hv2⟩
    have hk2' : Keep (fun y => y = q ∨ vx.ownBlock = some y) w1' w2 := hk2.mono fun _ _ h => .inl h
    have hM : opX X[i] = opN L[k].f L[k].b 8 := by unfold opX; rw [ef, eb]
    rw [hM] at hO2
    refine ⟨u', rfl, hO2.base (fun z hz => by have := (hO2.lt z hz).1; have := hk1.size; have := kk.size; omega), ?_, hX.ge h.bq hk2', v', vx', _, _, _, ⟨hC'.past hX hk2', hX2, h.iv.drop hk hi he, by rw [rmv_length hk]; have := h.ll; omega, h.lt, h.bp, h.bq⟩, by rw [rmv_length hk]; omega⟩
    exact (hO.keep kk (fun _ _ => id)).keep hk2 (fun z hz e => by have := (hO.lt z hz).1; have := block_lt h.rx.hp; omega)

theorem s10 {w W : World} {b q g o : Nat} {x0 x1 x2 x3 y z0 z1 z2 z3 z4 : Value} (K : Keep (fun _ => False) w W)
    (hx : w.cell? ⟨b, 0, none⟩ = some x0 ∧ w.cell? ⟨b, 1, none⟩ = some x1 ∧ w.cell? ⟨b, 2, none⟩ = some x2 ∧ w.cell? ⟨b, 3, none⟩ = some x3) (hy : w.cell? ⟨q, 0, none⟩ = some y)
    (hz : w.cell? ⟨g, o * 5, none⟩ = some z0 ∧ w.cell? ⟨g, o * 5 + 1, none⟩ = some z1 ∧ w.cell? ⟨g, o * 5 + 1 + 1, none⟩ = some z2 ∧ w.cell? ⟨g, o * 5 + 1 + 1 + 1, none⟩ = some z3 ∧ w.cell? ⟨g, o * 5 + 1 + 1 + 1 + 1, none⟩ = some z4) :
    W.cell? ⟨b, 0, none⟩ = some x0 ∧ W.cell? ⟨b, 1, none⟩ = some x1 ∧ W.cell? ⟨b, 2, none⟩ = some x2 ∧ W.cell? ⟨b, 3, none⟩ = some x3 ∧ W.cell? ⟨q, 0, none⟩ = some y ∧ W.cell? ⟨g, o * 5, none⟩ = some z0 ∧ W.cell? ⟨g, o * 5 + 1, none⟩ = some z1 ∧ W.cell? ⟨g, o * 5 + 1 + 1, none⟩ = some z2 ∧ W.cell? ⟨g, o * 5 + 1 + 1 + 1, none⟩ = some z3 ∧ W.cell? ⟨g, o * 5 + 1 + 1 + 1 + 1, none⟩ = some z4 := by
  have f : ∀ {b i : Nat} {x : Value}, w.cell? ⟨b, i, none⟩ = some x → W.cell? ⟨b, i, none⟩ = some x := fun h => (K.cell (block_lt_cell h) id).trans h
  exact ⟨f hx.1, f hx.2.1, f hx.2.2.1, f hx.2.2.2, f hy, f hz.1, f hz.2.1, f hz.2.2.1, f hz.2.2.2.1, f hz.2.2.2.2⟩

set_option maxRecDepth 100000 in
set_option maxHeartbeats 4000000 in
theorem oldest_walk (la : Option Addr) (l c : Nat) (w : World) (hr : RowsAt w la l [.int .i64, .int .i64, .int .i64, .int .i64]) :
    Calls Try.prog 5 #[.slice la l c] w fun e w' => e = .returned (.bool true) ∧ Below w.heap.size w w' := by
  obtain ⟨A, rfl, hA⟩ := acts4_of_rows hr
  have H1 := Lib.hid hA
  clear hA hr
  go_enter Try.func5, Try.ntmps5
  go_wp2_with (first | (go_at_call 8; refine (made_any la A c _ H1.out).mono ?_; rintro e w1 ⟨p, q, rfl, hT, hk1⟩; have HT := Lib.hid hT; have HK1 := Lib.hid hk1; clear hT hk1) | (go_at_call 9; refine (awake_any _).mono ?_; rintro e w2 ⟨rfl, hk2⟩; have HT2 := Lib.hid (HT.out.keep0 hk2); have HK2 := Lib.hid (HK1.out.trans hk2); obtain ⟨v, vx, L, X, T, hV⟩ := HT2.out; have HV := Lib.hid hV; have hc0 := hV.rx.c0; have HXL := Lib.hid hV.iv.len; obtain ⟨ax, cx, rfl, -⟩ := hV.rx.hv.slice; clear hk2 hV))
  have HTL : Hid (TwoL w2 w.heap.size p q 60 X.length) := ⟨v, _, L, X, T, HV.out, HXL.out⟩
  generalize X.length = n0 at HTL ⊢
  clear HV HXL hc0 HT HT2
  go_loopw [6] (fun nn wr => ∃ m : Nat, nn = .int .i64 m ∧ TwoL wr w.heap.size p q 60 m ∧ Keep (fun _ => False) w wr) (fun nn _ => (intOf nn).toNat)
  case atStart => exact ⟨n0, rfl, HTL.out, HK2.out⟩
  case round =>
    obtain ⟨m, rfl, hTL, hkeep⟩ := hrel
    obtain ⟨v, vx, L, X, T, hV, hlm⟩ := hTL
    have HV := Lib.hid hV
    have HK := Lib.hid hkeep
    clear hV hkeep HTL
    have hll := HV.out.ll
    rcases L with _ | ⟨x, L0⟩
    · obtain rfl : m = 0 := by simpa using hlm.symm
      go_wp2_with fail
      refine (oldestL_none w.heap.size p v _ HV.out.rc).mono ?_
      unfold rvV rv0
      rintro e w4 ⟨rfl, hk4⟩
      have HR4 := Lib.hid (HV.out.rc.keep0 hk4)
      have HK4 := Lib.hid (HK.out.trans hk4)
      clear hk4
      go_wp2_with (go_at_call 11; refine (heldL_any w.heap.size p v [] (by simp) _ (HR4.out.keep0 (by (repeat (first | exact Keep.refl _ _ | exact Keep.refl _ _ | refine Keep.drew ?_ | refine Keep.drewN ?_ _ | refine Keep.alloc ?_ _ | refine Keep.setNew ?_ (by omega) _)); done))).mono ?_; rintro e w5 ⟨rfl, hk5⟩)
      go_ret
      exact ⟨rfl, (HK4.out.trans (Keep.trans (by (repeat (first | exact Keep.refl _ _ | exact Keep.refl _ _ | refine Keep.drew ?_ | refine Keep.drewN ?_ _ | refine Keep.alloc ?_ _ | refine Keep.setNew ?_ (by omega) _)); done) hk5)).below⟩
    · obtain ⟨m, rfl⟩ : ∃ m', m = m' + 1 := ⟨L0.length, by simpa using hlm.symm⟩
      have HLM := Lib.hid hlm
      have hm60 : m + 1 ≤ 60 := by omega
      clear hlm
      go_wp2_with fail
      refine (oldestL_yes w.heap.size p v x L0 _ HV.out.rc).mono ?_
      unfold rvV
      rintro e w4 ⟨rfl, hk4⟩
      have HV4 := Lib.hid (HV.out.keep0 hk4)
      have HK4 := Lib.hid (HK.out.trans hk4)
      clear hk4
      go_wp2_with fail
      refine (oldestX_any w.heap.size q vx X T _ (HV4.out.rx.keep0 (by (repeat (first | exact Keep.refl _ _ | exact Keep.refl _ _ | refine Keep.drew ?_ | refine Keep.drewN ?_ _ | refine Keep.alloc ?_ _ | refine Keep.setNew ?_ (by omega) _)); done))).mono ?_
      rintro e w5 ⟨⟨r, rfl, hL⟩, hk5⟩
      have HB5 := Lib.hid ((hk5.block w4.heap.size (by simp) id).trans (heap_alloc_new w4 (.cells #[.int .i64 x.s, .int .i64 x.p, .int .i64 x.f, .int .u8 x.b] 31)))
      have HK45 : Hid (Keep (fun _ => False) w4 w5) := Keep.trans (by (repeat (first | exact Keep.refl _ _ | exact Keep.refl _ _ | refine Keep.drew ?_ | refine Keep.drewN ?_ _ | refine Keep.alloc ?_ _ | refine Keep.setNew ?_ (by omega) _)); done) hk5
      have HV5 := Lib.hid (HV4.out.keep0 HK45.out)
      have HK5 := Lib.hid (HK4.out.trans HK45.out)
      clear hk5
      obtain ⟨b7, hb7⟩ : ∃ z, w4.heap.size = z := ⟨_, rfl⟩
      rw [hb7] at HB5 ⊢
      clear hb7
      rcases hL with ⟨hX, _⟩ | ⟨o, ho, rfl, hmin⟩
      · exfalso
        have := HV5.out.iv.len
        rw [hX] at this; simp at this
      obtain ⟨_, hrv⟩ := HV5.out.iv.least ho hmin
      have HRV : Hid (X[o].rv = x) := hrv
      clear hmin hrv
      obtain ⟨g, cap, rfl, hBg, hcap, hgl⟩ := HV5.out.rx.hv.form (by intro e; rw [e] at ho; simp at ho)
      have hxl := HV5.out.rx.hl
      have hc0 := HV5.out.rx.c0
      have d := ox_cells2 HV5.out.rx.hv ho
      have hcell := cells4 HB5.out
      have HBO := Lib.hid (HV5.out.rx.hb _ (List.getElem_mem ho))
      have HBB := Lib.hid (HV5.out.rx.hc _ (List.getElem_mem ho))
      have HTOLD : Hid (∀ W, Keep (fun _ => False) w5 W → Calls Try.prog 19 #[.agg #[.int .i64 X[o].s, .int .i64 X[o].p, .int .i64 X[o].f, .slice (some ⟨X[o].g, 0, none⟩) 8 X[o].c, .int .i64 X[o].t]] W fun e w' => e = .returned (.agg #[.int .i64 x.s, .int .i64 x.p, .int .i64 x.f, .int .u8 x.b]) ∧ Keep (fun _ => False) W w') := fun W kk => by
        have h := told_any w.heap.size X[o] HBB.out W (HBO.out.keep kk (fun _ _ => id))
        rw [HRV.out] at h; exact h
      have o0 : (0 : Int) ≤ o := by omega
      go_wp2
      go_region_held3 (fun w' => w'.cell? ⟨b7, 0, none⟩ = some (.int .i64 x.s) ∧ w'.cell? ⟨b7, 1, none⟩ = some (.int .i64 x.p) ∧ w'.cell? ⟨b7, 2, none⟩ = some (.int .i64 x.f) ∧ w'.cell? ⟨b7, 3, none⟩ = some (.int .u8 x.b) ∧ w'.cell? ⟨q, 0, none⟩ = some (.slice (some ⟨g, 0, none⟩) X.length cap) ∧ w'.cell? ⟨g, o * 5, none⟩ = some (.int .i64 X[o].s) ∧ w'.cell? ⟨g, o * 5 + 1, none⟩ = some (.int .i64 X[o].p) ∧ w'.cell? ⟨g, o * 5 + 1 + 1, none⟩ = some (.int .i64 X[o].f) ∧ w'.cell? ⟨g, o * 5 + 1 + 1 + 1, none⟩ = some (.slice (some ⟨X[o].g, 0, none⟩) 8 X[o].c) ∧ w'.cell? ⟨g, o * 5 + 1 + 1 + 1 + 1, none⟩ = some (.int .i64 X[o].t))
        ((refine s10 ?_ hcell hc0 d; first | ((repeat (first | exact Keep.refl _ _ | exact Keep.refl _ _ | refine Keep.drew ?_ | refine Keep.drewN ?_ _ | refine Keep.alloc ?_ _ | refine Keep.setNew ?_ (by omega) _)); done) | ((repeat (first | exact HK6.out | exact Keep.refl _ _ | refine Keep.drew ?_ | refine Keep.drewN ?_ _ | refine Keep.alloc ?_ _ | refine Keep.setNew ?_ (by omega) _)); done)))
        (first | (go_at_call 19; refine (HTOLD.out _ (by (repeat (first | exact Keep.refl _ _ | exact Keep.refl _ _ | refine Keep.drew ?_ | refine Keep.drewN ?_ _ | refine Keep.alloc ?_ _ | refine Keep.setNew ?_ (by omega) _)); done)).mono ?_; rintro e w6 ⟨rfl, hk6⟩; have HK6 : Hid (Keep (fun _ => False) w5 w6) := Keep.trans (by (repeat (first | exact Keep.refl _ _ | exact Keep.refl _ _ | refine Keep.drew ?_ | refine Keep.drewN ?_ _ | refine Keep.alloc ?_ _ | refine Keep.setNew ?_ (by omega) _)); done) hk6; clear hk6) | fail)
      have HV6 := Lib.hid (HV5.out.keep0 HK6.out)
      have HB6 := Lib.hid ((HK6.out.block b7 (block_lt HB5.out) id).trans HB5.out)
      have HKA := Lib.hid (HK5.out.trans HK6.out)
      clear hc0 d hcell
      obtain ⟨e0, e1, e2, e3⟩ := cells4 HB6.out
      obtain ⟨M, hM8, hBR⟩ := break_in (x := x) HV6.out HLM.out (List.mem_cons_self ..) HKA.out.size
      have HBR := Lib.hid hBR
      clear hBR
      go_wp2_with fail
      refine HBR.out.mono ?_
      rintro e w7 ⟨u7, rfl, hO7, hk7, hx7⟩
      have HB7 := Lib.hid (hk7.other HB6.out (by unfold My; decide))
      have HK7 := Lib.hid hk7
      have HX7 := Lib.hid hx7
      obtain ⟨a7, c7, rfl, -⟩ := hO7.slice
      clear hk7 hx7 hO7 e0 e1 e2 e3
      obtain ⟨e0, e1, e2, e3⟩ := cells4 HB7.out
      go_wp2_with fail
      refine (HX7.out _ (by (repeat (first | exact Keep.refl _ _ | exact Keep.refl _ _ | refine Keep.drew ?_ | refine Keep.drewN ?_ _ | refine Keep.alloc ?_ _ | refine Keep.setNew ?_ (by omega) _)); done)).mono ?_
      rintro e w8 ⟨u8, rfl, hO8, hO78, hk8, hT8⟩
      have HO8 := Lib.hid hO8
      have HO78 := Lib.hid hO78
      have HK8 := Lib.hid (KB.fresh HKA.out (HK7.out.trans hk8))
      have HT8 := Lib.hid hT8
      obtain ⟨a8, c8, rfl, -⟩ := hO8.slice
      clear hO8 hO78 hk8 hT8
      go_wp2_with (go_at_call 21; refine (numbers_eq _ _ _ _ M _ HO78.out HO8.out (by omega)).mono ?_; rintro e w9 ⟨rfl, hk9⟩; have HK9 := Lib.hid hk9; clear hk9)
      go_roundw
      case rel => exact ⟨m, by go_num, HT8.out.keep0 HK9.out, HK8.out.trans HK9.out⟩
      case measure => simp [intOf]

end Go.Proofs.Ytmbgebmhdofdaaa
