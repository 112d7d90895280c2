/- Moves: insertion sort by age. -/
import Derived.Test.YtnlalihapmlceaaV
set_option linter.unusedVariables false
set_option linter.unusedSimpArgs false
namespace Go.Proofs.Ytnlalihapmlceaa
open Go.RowKit Go.Own

set_option maxHeartbeats 400000 in
theorem cmp_any (x y : Mv) (hx : 0 ≤ x.a ∧ x.a ≤ 1000000) (hy : 0 ≤ y.a ∧ y.a ≤ 1000000) (w : World) : Calls Try.prog 39 #[mvV x, mvV y] w fun e w' => e = .returned (.int .i64 (y.a - x.a)) ∧ Keep (fun _ => False) w w' := by
  unfold mvV
  go_enter Try.func39, Try.ntmps39
  go_wp2
  go_ret
  exact ⟨rfl, (by (repeat (first | exact Keep.refl _ _ | exact Keep.refl _ _ | refine Keep.drew ?_ | refine Keep.drewN ?_ _ | refine Keep.alloc ?_ _ | refine Keep.setNew ?_ (by omega) _)); done)⟩

def ag (D : List Mv) (k : Nat) : Int := (D.getD k mv0).a
theorem ag_eq {D : List Mv} {k : Nat} (h : k < D.length) : ag D k = D[k].a := by simp [ag, h]
theorem ag_set_eq {D : List Mv} {k : Nat} {y : Mv} (h : k < D.length) : ag (D.set k y) k = y.a := by simp [ag, h]
theorem ag_set_ne {D : List Mv} {k m : Nat} {y : Mv} (h : k ≠ m) : ag (D.set k y) m = ag D m := by simp [ag, h]
/-- The two places turned. -/
def swp (D : List Mv) (j : Nat) : List Mv := (D.set (j + 1) (D.getD j mv0)).set j (D.getD (j + 1) mv0)
theorem swp_length (D : List Mv) (j : Nat) : (swp D j).length = D.length := by simp [swp]
theorem swp_perm {D : List Mv} {j : Nat} (h : j + 1 < D.length) : (swp D j).Perm D := by
  have e : D = D.take j ++ D[j] :: D[j + 1] :: D.drop (j + 2) := by
    rw [← List.drop_eq_getElem_cons h, ← List.drop_eq_getElem_cons (by omega), List.take_append_drop]
  have hl : (D.take j).length = j := by simp; omega
  have e2 : swp D j = D.take j ++ D[j + 1] :: D[j] :: D.drop (j + 2) := by
    unfold swp
    rw [List.getD_eq_getElem?_getD, List.getD_eq_getElem?_getD, List.getElem?_eq_getElem h, List.getElem?_eq_getElem (by omega)]
    simp only [Option.getD_some]
    conv => lhs; rw [show D.set (j + 1) D[j] = (D.take j ++ D[j] :: D[j + 1] :: D.drop (j + 2)).set (j + 1) D[j] by rw [← e]]
    rw [List.set_append_right _ _ (by omega), hl, Nat.add_sub_cancel_left, List.set_cons_succ, List.set_cons_zero, List.set_append_right _ _ (by omega), hl, Nat.sub_self, List.set_cons_zero]
  rw [e2]
  conv => rhs; rw [e]
  exact List.Perm.append_left _ (List.Perm.swap ..)
theorem ag_swp {D : List Mv} {j : Nat} (h : j + 1 < D.length) (m : Nat) : ag (swp D j) m = if m = j then ag D (j + 1) else if m = j + 1 then ag D j else ag D m := by
  unfold swp
  by_cases e1 : m = j
  · subst e1
    rw [if_pos rfl, ag_set_eq (by simp; omega)]; rfl
  · rw [if_neg e1, ag_set_ne (Ne.symm e1)]
    by_cases e2 : m = j + 1
    · subst e2
      rw [if_pos rfl, ag_set_eq h]; rfl
    · rw [if_neg e2, ag_set_ne (Ne.symm e2)]

/-- The first i are in order. -/
def Sd (D : List Mv) (i : Nat) : Prop := ∀ a b, a < b → b < i → ag D b ≤ ag D a
/-- .. but for the one at j. -/
def Sx (D : List Mv) (i j : Nat) : Prop := ∀ a b, a < b → b ≤ i → b ≠ j → ag D b ≤ ag D a
theorem Sd.to {D : List Mv} {i : Nat} (h : Sd D i) : Sx D i i := fun a b h1 h2 h3 => h a b h1 (by omega)
theorem Sx.done {D : List Mv} {i j : Nat} (h : Sx D i j) (hj : j = 0 ∨ ag D j ≤ ag D (j - 1)) : Sd D (i + 1) := by
  intro a b h1 h2
  by_cases e : b = j
  · subst e
    rcases hj with h0 | h0
    · omega
    · by_cases e2 : a = b - 1
      · rw [e2]; exact h0
      · exact Int.le_trans h0 (h a (b - 1) (by omega) (by omega) (by omega))
  · exact h a b h1 (by omega) e
theorem Sx.swap {D : List Mv} {i j : Nat} (h : Sx D i (j + 1)) (hl : j + 1 < D.length) (hi : j + 1 ≤ i) (hlt : ag D j < ag D (j + 1)) : Sx (swp D j) i j := by
  intro a b h1 h2 h3
  rw [ag_swp hl, ag_swp hl]
  rw [if_neg h3]
  by_cases e : b = j + 1
  · subst e
    rw [if_pos rfl]
    by_cases e2 : a = j
    · rw [if_pos e2]; omega
    · rw [if_neg e2, if_neg (by omega)]; exact h a j (by omega) (by omega) (by omega)
  · rw [if_neg e]
    by_cases e2 : a = j
    · rw [if_pos e2]; exact h (j + 1) b (by omega) h2 e
    · rw [if_neg e2]
      by_cases e3 : a = j + 1
      · rw [if_pos e3]; exact h j b (by omega) h2 e
      · rw [if_neg e3]; exact h a b h1 h2 e

theorem set4 {w : World} {B g n cap i : Nat} {D : List Mv} {y : Mv} (h : OwnL mvE w B 31 (.slice (some ⟨g, 0, none⟩) n cap) D) (hi : i < D.length) :
    OwnL mvE ((((w.setCell ⟨g, i * 4, none⟩ (.int .i64 y.f)).setCell ⟨g, i * 4 + 1, none⟩ (.int .i64 y.t)).setCell ⟨g, i * 4 + 2, none⟩ (.int .i64 y.s)).setCell ⟨g, i * 4 + 3, none⟩ (.int .i64 y.a)) B 31 (.slice (some ⟨g, 0, none⟩) n cap) (D.set i y) := by
  have h1 := OwnL.set (j := 0) (x := ⟨y.f, D[i].t, D[i].s, D[i].a⟩) (u := .int .i64 y.f) h hi (by decide) rfl
  have h2 := OwnL.set (i := i) (j := 1) (x := ⟨y.f, y.t, D[i].s, D[i].a⟩) (u := .int .i64 y.t) h1 (by simpa using hi) (by decide) (by simp [mvE])
  have h3 := OwnL.set (i := i) (j := 2) (x := ⟨y.f, y.t, y.s, D[i].a⟩) (u := .int .i64 y.s) h2 (by simpa using hi) (by decide) (by simp [mvE])
  have h4 := OwnL.set (i := i) (j := 3) (x := y) (u := .int .i64 y.a) h3 (by simpa using hi) (by decide) (by simp [mvE])
  simp only [List.set_set] at h4
  exact h4

theorem s8 {w W : World} {g i j : Nat} {x0 x1 x2 x3 y0 y1 y2 y3 : Value} (K : Keep (fun _ => False) w W)
    (hx : w.cell? ⟨g, i, none⟩ = some x0 ∧ w.cell? ⟨g, i + 1, none⟩ = some x1 ∧ w.cell? ⟨g, i + 1 + 1, none⟩ = some x2 ∧ w.cell? ⟨g, i + 1 + 1 + 1, none⟩ = some x3)
    (hy : w.cell? ⟨g, j, none⟩ = some y0 ∧ w.cell? ⟨g, j + 1, none⟩ = some y1 ∧ w.cell? ⟨g, j + 1 + 1, none⟩ = some y2 ∧ w.cell? ⟨g, j + 1 + 1 + 1, none⟩ = some y3) :
    W.cell? ⟨g, i, none⟩ = some x0 ∧ W.cell? ⟨g, i + 1, none⟩ = some x1 ∧ W.cell? ⟨g, i + 1 + 1, none⟩ = some x2 ∧ W.cell? ⟨g, i + 1 + 1 + 1, none⟩ = some x3 ∧
    W.cell? ⟨g, j, none⟩ = some y0 ∧ W.cell? ⟨g, j + 1, none⟩ = some y1 ∧ W.cell? ⟨g, j + 1 + 1, none⟩ = some y2 ∧ W.cell? ⟨g, j + 1 + 1 + 1, none⟩ = some y3 := by
  have f : ∀ {b i : Nat} {x : Value}, w.cell? ⟨b, i, none⟩ = some x → W.cell? ⟨b, i, none⟩ = some x := fun h => (K.cell (block_lt_cell h) id).trans h
  exact ⟨f hx.1, f hx.2.1, f hx.2.2.1, f hx.2.2.2, f hy.1, f hy.2.1, f hy.2.2.1, f hy.2.2.2⟩

theorem swap8 {w0 w : World} {B g n cap q : Nat} {F : List Mv} {x y : Mv} (h : OwnL mvE w B 31 (.slice (some ⟨g, 0, none⟩) n cap) F) (hq1 : q + 1 < F.length) (hx : F.getD (q + 1) mv0 = x) (hy : F.getD q mv0 = y) (hk : Keep (fun z => z = g) w0 w) :
    OwnL mvE ((((((((w.setCell ⟨g, (q + 1) * 4, none⟩ (.int .i64 y.f)).setCell ⟨g, (q + 1) * 4 + 1, none⟩ (.int .i64 y.t)).setCell ⟨g, (q + 1) * 4 + 2, none⟩ (.int .i64 y.s)).setCell ⟨g, (q + 1) * 4 + 3, none⟩ (.int .i64 y.a)).setCell ⟨g, q * 4, none⟩ (.int .i64 x.f)).setCell ⟨g, q * 4 + 1, none⟩ (.int .i64 x.t)).setCell ⟨g, q * 4 + 2, none⟩ (.int .i64 x.s)).setCell ⟨g, q * 4 + 3, none⟩ (.int .i64 x.a)).drew B 31 (.slice (some ⟨g, 0, none⟩) n cap) (swp F q) ∧
    Keep (fun z => z = g) w0 ((((((((w.setCell ⟨g, (q + 1) * 4, none⟩ (.int .i64 y.f)).setCell ⟨g, (q + 1) * 4 + 1, none⟩ (.int .i64 y.t)).setCell ⟨g, (q + 1) * 4 + 2, none⟩ (.int .i64 y.s)).setCell ⟨g, (q + 1) * 4 + 3, none⟩ (.int .i64 y.a)).setCell ⟨g, q * 4, none⟩ (.int .i64 x.f)).setCell ⟨g, q * 4 + 1, none⟩ (.int .i64 x.t)).setCell ⟨g, q * 4 + 2, none⟩ (.int .i64 x.s)).setCell ⟨g, q * 4 + 3, none⟩ (.int .i64 x.a)).drew := by
  have S1 := set4 (y := y) h hq1
  have S2 := set4 (y := x) S1 (i := q) (by simp; omega)
  have k1 := (((hk.setCell (p := ⟨g, (q + 1) * 4, none⟩) (fun _ => rfl) (.int .i64 y.f)).setCell (p := ⟨g, (q + 1) * 4 + 1, none⟩) (fun _ => rfl) (.int .i64 y.t)).setCell (p := ⟨g, (q + 1) * 4 + 2, none⟩) (fun _ => rfl) (.int .i64 y.s)).setCell (p := ⟨g, (q + 1) * 4 + 3, none⟩) (fun _ => rfl) (.int .i64 y.a)
  have k2 := (((k1.setCell (p := ⟨g, q * 4, none⟩) (fun _ => rfl) (.int .i64 x.f)).setCell (p := ⟨g, q * 4 + 1, none⟩) (fun _ => rfl) (.int .i64 x.t)).setCell (p := ⟨g, q * 4 + 2, none⟩) (fun _ => rfl) (.int .i64 x.s)).setCell (p := ⟨g, q * 4 + 3, none⟩) (fun _ => rfl) (.int .i64 x.a)
  refine ⟨?_, k2.drew⟩
  have e : (F.set (q + 1) y).set q x = swp F q := by unfold swp; rw [hx, hy]
  rw [← e]
  exact S2.heap (heap_drew _)

set_option maxHeartbeats 4000000 in
theorem ins_any (B g cap : Nat) (D : List Mv) (w : World) (hD : OwnL mvE w B 31 (.slice (some ⟨g, 0, none⟩) D.length cap) D) (hl : D.length ≤ 100) (ha : ∀ x, x ∈ D → 0 ≤ x.a ∧ x.a ≤ 1000000) :
    Calls Try.prog 42 #[.slice (some ⟨g, 0, none⟩) D.length cap, .int .i64 0, .int .i64 D.length, .func (.func 39) #[] #[]] w fun e w' => e = .returned (.tuple #[]) ∧ ∃ D', D'.Perm D ∧ Sd D' D.length ∧ OwnL mvE w' B 31 (.slice (some ⟨g, 0, none⟩) D.length cap) D' ∧ Keep (fun z => z = g) w w' := by
  go_enter Try.func42, Try.ntmps42
  go_wp2
  go_loopw [8] (fun i wr => ∃ k : Nat, 1 ≤ k ∧ k ≤ D.length + 1 ∧ i = .int .i64 k ∧ ∃ E : List Mv, E.Perm D ∧ Sd E k ∧ OwnL mvE wr B 31 (.slice (some ⟨g, 0, none⟩) D.length cap) E ∧ Keep (fun z => z = g) w wr) (fun i _ => D.length + 1 - (intOf i).toNat)
  case atStart => exact ⟨1, by omega, by omega, rfl, D, List.Perm.refl _, fun a b h1 h2 => by omega, hD, Keep.refl _ _⟩
  case round =>
    obtain ⟨k, hk1, hk, rfl, E, hE, hS, hO, hkeep⟩ := hrel
    have HE := Lib.hid hE
    have HS := Lib.hid hS
    have HO := Lib.hid hO
    have HK := Lib.hid hkeep
    clear hE hS hO hkeep
    by_cases hlt : k < D.length
    · go_wp2
      go_loopw [9] (fun i wr => ∃ j : Nat, j ≤ k ∧ i = .int .i64 j ∧ ∃ E : List Mv, E.Perm D ∧ Sx E k j ∧ OwnL mvE wr B 31 (.slice (some ⟨g, 0, none⟩) D.length cap) E ∧ Keep (fun z => z = g) w wr) (fun i _ => (intOf i).toNat)
      case atStart => exact ⟨k, by omega, rfl, E, HE.out, HS.out.to, HO.out, HK.out⟩
      case round =>
        obtain ⟨j, hj, rfl, F, hF, hX, hP, hkeep⟩ := hrel
        have HF := Lib.hid hF
        have HX := Lib.hid hX
        have HP := Lib.hid hP
        have HK2 := Lib.hid hkeep
        have hFl := hF.length_eq
        clear hF hX hP hkeep
        rcases j with _ | q
        · go_wp2
          go_quiet (fail)
          go_wp2
          go_roundw
          case rel => exact ⟨k + 1, by omega, by omega, by go_num, F, HF.out, HX.out.done (.inl rfl), HP.out, HK2.out.drewN _⟩
          case measure => simp [intOf]; omega
        · have hq1 : q + 1 < F.length := by omega
          have hq0 : q < F.length := by omega
          have C1 := Lib.hid (mv_cells HP.out hq1)
          have C0 := Lib.hid (mv_cells HP.out hq0)
          have hb1 := ha _ (HF.out.mem_iff.mp (List.getElem_mem hq1))
          have hb0 := ha _ (HF.out.mem_iff.mp (List.getElem_mem hq0))
          obtain ⟨x, hx⟩ : ∃ x, F[q + 1] = x := ⟨_, rfl⟩
          obtain ⟨y, hy⟩ : ∃ y, F[q] = y := ⟨_, rfl⟩
          have ex : ag F (q + 1) = x.a := by rw [ag_eq hq1, hx]
          have ey : ag F q = y.a := by rw [ag_eq hq0, hy]
          have GX : F.getD (q + 1) mv0 = x := by rw [← hx]; simp [hq1]
          have GY : F.getD q mv0 = y := by rw [← hy]; simp [hq0]
          have EX := Lib.hid ex
          have EY := Lib.hid ey
          have HGX := Lib.hid GX
          have HGY := Lib.hid GY
          rw [hx] at C1 hb1
          rw [hy] at C0 hb0
          clear hx hy ex ey GX GY
          have hwp : IntKind.i64.wrap (q : Int) = (q : Int) := IntWalk.i64_in _ (by omega)
          have jz : (q : Int) + 1 < (D.length : Int) := by omega
          have jz1 : (q : Int) < (D.length : Int) := by omega
          have p1 : (0 : Int) < (q : Int) + 1 := by omega
          have p0 : (0 : Int) ≤ (q : Int) + 1 := by omega
          have e0 : ((q : Int) + 1).toNat = q + 1 := by omega
          by_cases hlv : y.a - x.a < 0
          · go_wp2
            go_region_held3 (fun w' => w'.cell? ⟨g, (q + 1) * 4, none⟩ = some (.int .i64 x.f) ∧ w'.cell? ⟨g, (q + 1) * 4 + 1, none⟩ = some (.int .i64 x.t) ∧ w'.cell? ⟨g, (q + 1) * 4 + 1 + 1, none⟩ = some (.int .i64 x.s) ∧ w'.cell? ⟨g, (q + 1) * 4 + 1 + 1 + 1, none⟩ = some (.int .i64 x.a) ∧
                w'.cell? ⟨g, q * 4, none⟩ = some (.int .i64 y.f) ∧ w'.cell? ⟨g, q * 4 + 1, none⟩ = some (.int .i64 y.t) ∧ w'.cell? ⟨g, q * 4 + 1 + 1, none⟩ = some (.int .i64 y.s) ∧ w'.cell? ⟨g, q * 4 + 1 + 1 + 1, none⟩ = some (.int .i64 y.a))
              ((refine s8 ?_ C1.out C0.out; first | ((repeat (first | exact Keep.refl _ _ | exact Keep.refl _ _ | refine Keep.drew ?_ | refine Keep.drewN ?_ _ | refine Keep.alloc ?_ _ | refine Keep.setNew ?_ (by omega) _)); done) | ((repeat (first | exact HC.out | exact Keep.refl _ _ | refine Keep.drew ?_ | refine Keep.drewN ?_ _ | refine Keep.alloc ?_ _ | refine Keep.setNew ?_ (by omega) _)); done)))
              (first | (go_at_call 39; refine (cmp_any x y hb1 hb0 _).mono ?_; rintro e wc ⟨rfl, hkc⟩; have HC : Hid (Keep (fun _ => False) wr wc) := Keep.trans (by (repeat (first | exact Keep.refl _ _ | exact Keep.refl _ _ | refine Keep.drew ?_ | refine Keep.drewN ?_ _ | refine Keep.alloc ?_ _ | refine Keep.setNew ?_ (by omega) _)); done) hkc; clear hkc) | fail)
            go_wp2
            have HPc := Lib.hid (HP.out.keep HC.out (fun _ _ => id))
            have HKc := Lib.hid (HK2.out.trans (HC.out.mono (fun _ _ h => h.elim)))
            obtain ⟨c0, c1, c2, c3, d0, d1, d2, d3⟩ := s8 HC.out C1.out C0.out
            have z0 := HPc.out.frozen ((q + 1) * 4)
            have z1 := HPc.out.frozen ((q + 1) * 4 + 1)
            have z2 := HPc.out.frozen ((q + 1) * 4 + 1 + 1)
            have z3 := HPc.out.frozen ((q + 1) * 4 + 1 + 1 + 1)
            have y0 := HPc.out.frozen (q * 4)
            have y1 := HPc.out.frozen (q * 4 + 1)
            have y2 := HPc.out.frozen (q * 4 + 1 + 1)
            have y3 := HPc.out.frozen (q * 4 + 1 + 1 + 1)
            clear C1 C0 HC
            go_region
            all_goals
              have S8 := Lib.hid (swap8 HPc.out hq1 HGX.out HGY.out HKc.out)
              clear c0 c1 c2 c3 d0 d1 d2 d3 z0 z1 z2 z3 y0 y1 y2 y3
              go_wp2
              go_roundw
              case rel => exact ⟨q, by omega, by go_num, swp F q, (swp_perm hq1).trans HF.out, HX.out.swap hq1 hj (by rw [EX.out, EY.out]; omega), S8.out.1, S8.out.2⟩
              case measure => simp [intOf]; try omega
          · go_wp2
            go_region_held3 (fun w' => w'.cell? ⟨g, (q + 1) * 4, none⟩ = some (.int .i64 x.f) ∧ w'.cell? ⟨g, (q + 1) * 4 + 1, none⟩ = some (.int .i64 x.t) ∧ w'.cell? ⟨g, (q + 1) * 4 + 1 + 1, none⟩ = some (.int .i64 x.s) ∧ w'.cell? ⟨g, (q + 1) * 4 + 1 + 1 + 1, none⟩ = some (.int .i64 x.a) ∧
                w'.cell? ⟨g, q * 4, none⟩ = some (.int .i64 y.f) ∧ w'.cell? ⟨g, q * 4 + 1, none⟩ = some (.int .i64 y.t) ∧ w'.cell? ⟨g, q * 4 + 1 + 1, none⟩ = some (.int .i64 y.s) ∧ w'.cell? ⟨g, q * 4 + 1 + 1 + 1, none⟩ = some (.int .i64 y.a))
              ((refine s8 ?_ C1.out C0.out; first | ((repeat (first | exact Keep.refl _ _ | exact Keep.refl _ _ | refine Keep.drew ?_ | refine Keep.drewN ?_ _ | refine Keep.alloc ?_ _ | refine Keep.setNew ?_ (by omega) _)); done) | ((repeat (first | exact HC.out | exact Keep.refl _ _ | refine Keep.drew ?_ | refine Keep.drewN ?_ _ | refine Keep.alloc ?_ _ | refine Keep.setNew ?_ (by omega) _)); done)))
              (first | (go_at_call 39; refine (cmp_any x y hb1 hb0 _).mono ?_; rintro e wc ⟨rfl, hkc⟩; have HC : Hid (Keep (fun _ => False) wr wc) := Keep.trans (by (repeat (first | exact Keep.refl _ _ | exact Keep.refl _ _ | refine Keep.drew ?_ | refine Keep.drewN ?_ _ | refine Keep.alloc ?_ _ | refine Keep.setNew ?_ (by omega) _)); done) hkc; clear hkc) | fail)
            go_wp2
            go_roundw
            case rel => exact ⟨k + 1, by omega, by omega, by go_num, F, HF.out, HX.out.done (.inr (by rw [Nat.add_sub_cancel, EX.out, EY.out]; omega)), HP.out.keep HC.out (fun _ _ => id), HK2.out.trans (HC.out.mono (fun _ _ h => h.elim))⟩
            case measure => simp [intOf]; omega
    · go_wp2
      go_end0
      exact ⟨rfl, E, HE.out, fun a b h1 h2 => HS.out a b h1 (by omega), HO.out, HK.out⟩

end Go.Proofs.Ytnlalihapmlceaa
