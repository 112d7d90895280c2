/- Reservations: Make, in any list. -/
import Derived.Test.YtmbgebmhdofdaaaP
import Derived.Test.YtmbgebmhdofdaaaE
set_option linter.unusedVariables false
set_option linter.unusedSimpArgs false
namespace Go.Proofs.Ytmbgebmhdofdaaa
open Go.RowKit Go.Own

def mkOk (s y f : Int) : Prop := 0 ≤ s ∧ 0 ≤ y ∧ y < 4096 ∧ 0 ≤ f ∧ f ≤ 1016

set_option maxHeartbeats 1000000 in
theorem make_range (p : Nat) (s y f : Int) (h : ¬ mkOk s y f) (w : World) : Calls Try.prog 13 #[.pointer (some ⟨p, 0, none⟩), .int .i64 s, .int .i64 y, .int .i64 f] w fun e w' => e = .returned (.int .i64 3) ∧ w = w' := by
  unfold mkOk at h
  rcases (show s < 0 ∨ (0 ≤ s ∧ y < 0) ∨ (0 ≤ s ∧ 0 ≤ y ∧ 4096 ≤ y) ∨ (0 ≤ s ∧ 0 ≤ y ∧ y < 4096 ∧ f < 0) ∨ (0 ≤ s ∧ 0 ≤ y ∧ y < 4096 ∧ 0 ≤ f ∧ 1016 < f) by omega) with h1 | ⟨h1, h2⟩ | ⟨h1, h2, h3⟩ | ⟨h1, h2, h3, h4⟩ | ⟨h1, h2, h3, h4, h5⟩
  all_goals
    clear h
    go_enter Try.func13, Try.ntmps13
    go_wp2
    go_ret
    exact ⟨rfl, rfl⟩
set_option maxHeartbeats 1000000 in
theorem make_align (p : Nat) (s y f : Int) (h : mkOk s y f) (h8 : y % 8 ≠ 0 ∨ f % 8 ≠ 0) (w : World) : Calls Try.prog 13 #[.pointer (some ⟨p, 0, none⟩), .int .i64 s, .int .i64 y, .int .i64 f] w fun e w' => e = .returned (.int .i64 4) ∧ w = w' := by
  obtain ⟨h1, h2, h3, h4, h5⟩ := h
  have iy : i64R y := ⟨by omega, by omega⟩
  have jf : i64R f := ⟨by omega, by omega⟩
  have IY := Lib.hid iy
  have JF := Lib.hid jf
  rcases (show y % 8 ≠ 0 ∨ (y % 8 = 0 ∧ f % 8 ≠ 0) by omega) with h6 | ⟨h6, h7⟩
  · have e1 : (y / 8 * 8 == y) = false := by simp; omega
    have E1 := Lib.hid e1
    clear h8 e1 h6 iy jf
    go_enter Try.func13, Try.ntmps13
    go_wp2_with (first | (go_at_call 30; refine (even_int _ IY.out _).mono ?_; rw [E1.out]; rintro e w1 ⟨rfl, rfl⟩))
    go_ret
    exact ⟨rfl, rfl⟩
  · have e1 : (y / 8 * 8 == y) = true := by simp; omega
    have e2 : (f / 8 * 8 == f) = false := by simp; omega
    have E1 := Lib.hid e1
    have E2 := Lib.hid e2
    clear h8 e1 e2 h6 h7 iy jf
    go_enter Try.func13, Try.ntmps13
    go_wp2_with (first | (go_at_call_of 30 (y); refine (even_int y IY.out _).mono ?_; rw [E1.out]; rintro e w1 ⟨rfl, rfl⟩) | (go_at_call_of 30 (f); refine (even_int f JF.out _).mono ?_; rw [E2.out]; rintro e w1 ⟨rfl, rfl⟩))
    go_ret
    exact ⟨rfl, rfl⟩
set_option maxHeartbeats 2000000 in
theorem make_exist (B p : Nat) (v : Value) (L : List Rv) (s y f : Int) (h : mkOk s y f) (h8 : y % 8 = 0 ∧ f % 8 = 0) (hn : (owF L f).isSome = true ∨ 0 ≤ whI L s y) (w : World) (hR : RepR w B p v L) : Calls Try.prog 13 #[.pointer (some ⟨p, 0, none⟩), .int .i64 s, .int .i64 y, .int .i64 f] w fun e w' => e = .returned (.int .i64 7) ∧ Keep (fun _ => False) w w' := by
  obtain ⟨h1, h2, h3, h4, h5⟩ := h
  have hl := hR.hl
  have iy : i64R y := ⟨by omega, by omega⟩
  have jf : i64R f := ⟨by omega, by omega⟩
  have IY := Lib.hid iy
  have JF := Lib.hid jf
  have e1 : (y / 8 * 8 == y) = true := by simp; omega
  have e2 : (f / 8 * 8 == f) = true := by simp; omega
  have E1 := Lib.hid e1
  have E2 := Lib.hid e2
  have ey : y / 8 * 8 = y := by omega
  have ef : f / 8 * 8 = f := by omega
  have HRR := Lib.hid hR
  clear h8 e1 e2 iy jf hR
  obtain ⟨ow, how⟩ : ∃ z, owF L f = z := ⟨_, rfl⟩
  have HOW : Hid (∀ W, Keep (fun _ => False) w W → Calls Try.prog 24 #[.pointer (some ⟨p, 0, none⟩), .int .i64 f] W fun e w' => e = .returned (.tuple #[rvV (ow.getD rv0), .bool ow.isSome]) ∧ Keep (fun _ => False) W w') := fun W k => by
    have := owner_any B p v L f h4 JF.out W (HRR.out.keep0 k)
    rw [ef, how] at this; exact this
  rw [how] at hn
  clear how
  obtain ⟨wi, hwi⟩ : ∃ z, whI L s y = z := ⟨_, rfl⟩
  have HWI : Hid (∀ W, Keep (fun _ => False) w W → Calls Try.prog 31 #[.pointer (some ⟨p, 0, none⟩), .int .i64 s, .int .i64 y] W fun e w' => e = .returned (.int .i64 wi) ∧ Keep (fun _ => False) W w') := fun W k => by
    have := where_any B p v L s y IY.out hl W (HRR.out.keep0 k)
    rw [ey, hwi] at this; exact this
  rw [hwi] at hn
  clear hwi ey ef
  cases ow with
  | some ox =>
    clear hn
    simp only [Option.getD_some, Option.isSome_some] at HOW
    unfold rvV at HOW
    go_enter Try.func13, Try.ntmps13
    go_wp2_with (first | (go_at_call_of 30 (y); refine (even_int y IY.out _).mono ?_; rw [E1.out]; rintro e w1 ⟨rfl, rfl⟩) | (go_at_call_of 30 (f); refine (even_int f JF.out _).mono ?_; rw [E2.out]; rintro e w1 ⟨rfl, rfl⟩) | (go_at_call 24; refine (HOW.out _ (Keep.refl _ _)).mono ?_; rintro e w2 ⟨rfl, hk2⟩))
    go_ret
    exact ⟨rfl, (by (repeat (first | exact hk2 | exact Keep.refl _ _ | refine Keep.drew ?_ | refine Keep.drewN ?_ _ | refine Keep.alloc ?_ _ | refine Keep.setNew ?_ (by omega) _)); done)⟩
  | none =>
    have hw0 : 0 ≤ wi := by simpa using hn
    clear hn
    simp only [Option.getD_none, Option.isSome_none] at HOW
    unfold rvV rv0 at HOW
    go_enter Try.func13, Try.ntmps13
    go_wp2_with (first | (go_at_call_of 30 (y); refine (even_int y IY.out _).mono ?_; rw [E1.out]; rintro e w1 ⟨rfl, rfl⟩) | (go_at_call_of 30 (f); refine (even_int f JF.out _).mono ?_; rw [E2.out]; rintro e w1 ⟨rfl, rfl⟩) | (go_at_call 24; refine (HOW.out _ (Keep.refl _ _)).mono ?_; rintro e w2 ⟨rfl, hk2⟩; have HK2 := Lib.hid hk2; clear hk2) | (go_at_call 31; refine (HWI.out _ (by (repeat (first | exact HK2.out | exact Keep.refl _ _ | refine Keep.drew ?_ | refine Keep.drewN ?_ _ | refine Keep.alloc ?_ _ | refine Keep.setNew ?_ (by omega) _)); done)).mono ?_; rintro e w3 ⟨rfl, hk3⟩))
    go_ret
    exact ⟨rfl, Keep.trans (by (repeat (first | exact HK2.out | exact Keep.refl _ _ | refine Keep.drew ?_ | refine Keep.drewN ?_ _ | refine Keep.alloc ?_ _ | refine Keep.setNew ?_ (by omega) _)); done) hk3⟩

theorem cells_keep {w w' : World} (h : Keep (fun _ => False) w w') {b : Addr} {cs : List Value} (hb : b.block < w.heap.size) (hc : ∀ j x, cs[j]? = some x → w.cell? (b.add j) = some x) : ∀ j x, cs[j]? = some x → w'.cell? (b.add j) = some x :=
  fun j x hj => (keep_cellA h hb id).trans (hc j x hj)

set_option maxRecDepth 100000 in
set_option maxHeartbeats 4000000 in
theorem make_ok (B p : Nat) (v : Value) (L : List Rv) (s y f : Int) (h : mkOk s y f) (h8 : y % 8 = 0 ∧ f % 8 = 0) (hn1 : owF L f = none) (hn2 : whI L s y = -1) (hl : L.length ≤ 150) (w : World) (hB : B ≤ w.heap.size) (hR : RepR w B p v L) :
    Calls Try.prog 13 #[.pointer (some ⟨p, 0, none⟩), .int .i64 s, .int .i64 y, .int .i64 f] w fun e w' => ∃ v', e = .returned (.int .i64 0) ∧ RepR w' B p v' (L ++ [⟨s, y, f, 0⟩]) ∧ Keep (fun z => z = p) w w' ∧ (∀ z, v'.ownBlock = some z → w.heap.size ≤ z) := by
  obtain ⟨h1, h2, h3, h4, h5⟩ := h
  have iy : i64R y := ⟨by omega, by omega⟩
  have jf : i64R f := ⟨by omega, by omega⟩
  have IY := Lib.hid iy
  have JF := Lib.hid jf
  have e1 : (y / 8 * 8 == y) = true := by simp; omega
  have e2 : (f / 8 * 8 == f) = true := by simp; omega
  have E1 := Lib.hid e1
  have E2 := Lib.hid e2
  have ey : y / 8 * 8 = y := by omega
  have ef : f / 8 * 8 = f := by omega
  have HRR := Lib.hid hR
  have HOW : Hid (∀ W, Keep (fun _ => False) w W → Calls Try.prog 24 #[.pointer (some ⟨p, 0, none⟩), .int .i64 f] W fun e w' => e = .returned (.tuple #[.agg #[.int .i64 0, .int .i64 0, .int .i64 0, .int .u8 0], .bool false]) ∧ Keep (fun _ => False) W w') := fun W k => by
    have := owner_any B p v L f h4 JF.out W (HRR.out.keep0 k)
    rw [ef, hn1] at this; exact this
  have HWI : Hid (∀ W, Keep (fun _ => False) w W → Calls Try.prog 31 #[.pointer (some ⟨p, 0, none⟩), .int .i64 s, .int .i64 y] W fun e w' => e = .returned (.int .i64 (-1)) ∧ Keep (fun _ => False) W w') := fun W k => by
    have := where_any B p v L s y IY.out (by omega) W (HRR.out.keep0 k)
    rw [ey, hn2] at this; exact this
  clear h8 e1 e2 iy jf hR hn1 hn2 ey ef
  go_enter Try.func13, Try.ntmps13
  go_wp2_with (first | (go_at_call_of 30 (y); refine (even_int y IY.out _).mono ?_; rw [E1.out]; rintro e w1 ⟨rfl, rfl⟩) | (go_at_call_of 30 (f); refine (even_int f JF.out _).mono ?_; rw [E2.out]; rintro e w1 ⟨rfl, rfl⟩) | (go_at_call 24; refine (HOW.out _ (Keep.refl _ _)).mono ?_; rintro e w2 ⟨rfl, hk2⟩; have HK2 := Lib.hid hk2; clear hk2) | (go_at_call 31; refine (HWI.out _ (by (repeat (first | exact HK2.out | exact Keep.refl _ _ | refine Keep.drew ?_ | refine Keep.drewN ?_ _ | refine Keep.alloc ?_ _ | refine Keep.setNew ?_ (by omega) _)); done)).mono ?_; rintro e w3 ⟨rfl, hk3⟩; have K3 : Hid (Keep (fun _ => False) w w3) := Keep.trans (by (repeat (first | exact HK2.out | exact Keep.refl _ _ | refine Keep.drew ?_ | refine Keep.drewN ?_ _ | refine Keep.alloc ?_ _ | refine Keep.setNew ?_ (by omega) _)); done) hk3; clear hk3))
  have HR3 := Lib.hid (HRR.out.keep0 K3.out)
  have hc0 := HR3.out.c0
  have fz : w3.frozen? ⟨p, 0, none⟩ = false := frozen_block HR3.out.hp
  obtain ⟨au, cu, rfl, -⟩ := HRR.out.hv.slice
  obtain ⟨ao, hsl, hao, hcs⟩ := sl_full et28 HR3.out.hv
  have HAO := Lib.hid hao
  have HCS := Lib.hid hcs
  have hs3 := K3.out.size
  clear hao hcs
  obtain ⟨i0, hi, hz0, hz1, hz2⟩ := info_parts et28.hi
  have HI := Lib.hid hi
  have HZ := Lib.hid (And.intro hz0 (And.intro hz1 hz2))
  clear hi hz0 hz1 hz2
  refine wp_region_noPanic ?_
  refine wp_region_L (fun w' => w'.cell? ⟨p, 0, none⟩ = some (.slice au L.length cu) ∧ w'.frozen? ⟨p, 0, none⟩ = false) 24 (by kernel_rfl) (by (refine sM ?_ hc0 fz; (repeat (first | exact HK77.out | exact Keep.refl _ _ | refine Keep.drew ?_ | refine Keep.drewN ?_ _ | refine Keep.alloc ?_ _ | refine Keep.setNew ?_ (by omega) _)); done)) (fun hS0 => ?_)
  refine wpAnyL_take 0 (oi := { dst := some 56, op := Go.Op.move (Go.Operand.tmp 0), type := 23, pos := "resv.go:50", after := #[], guard := none }) (v := ?_) rfl (by kernel_rfl) (by kernel_rfl) (by kernel_rfl) (by kernel_rfl) (fun _ _ _ h => h) (Or.inl ⟨by rfl, ?_⟩) (by assumption) ?_
  rotate_left
  · (intro w hSw; (try dsimp only at hSw); go_split_ands; go_simp; try (with_reducible rfl))
  simp only [Act.put, List.setIfInBounds_toArray, List.set_cons_zero, List.set_cons_succ]
  refine wpAnyL_take 1 (oi := { dst := some 57, op := Go.Op.move (Go.Operand.tmp 0), type := 23, pos := "resv.go:50", after := #[], guard := none }) (v := ?_) rfl (by kernel_rfl) (by kernel_rfl) (by kernel_rfl) (by kernel_rfl) (fun _ _ _ h => h) (Or.inl ⟨by rfl, ?_⟩) (by assumption) ?_
  rotate_left
  · (intro w hSw; (try dsimp only at hSw); go_split_ands; go_simp; try (with_reducible rfl))
  simp only [Act.put, List.setIfInBounds_toArray, List.set_cons_zero, List.set_cons_succ]
  refine wpAnyL_take 2 (oi := { dst := some 58, op := Go.Op.nilCheck (Go.Operand.tmp 57), type := 0, pos := "resv.go:50", after := #[{ on := 1, ground := Go.Ground.data }], guard := none }) (v := ?_) rfl (by kernel_rfl) (by kernel_rfl) (by kernel_rfl) (by kernel_rfl) (fun _ _ _ h => h) (Or.inl ⟨by rfl, ?_⟩) (by assumption) ?_
  rotate_left
  · (intro w hSw; (try dsimp only at hSw); go_split_ands; go_simp; try (with_reducible rfl))
  simp only [Act.put, List.setIfInBounds_toArray, List.set_cons_zero, List.set_cons_succ]
  refine wpAnyL_take 3 (oi := { dst := some 59, op := Go.Op.fieldAddr 64 (Go.Operand.tmp 58) 0, type := 0, pos := "resv.go:50", after := #[{ on := 2, ground := Go.Ground.data }], guard := none }) (v := ?_) rfl (by kernel_rfl) (by kernel_rfl) (by kernel_rfl) (by kernel_rfl) (fun _ _ _ h => h) (Or.inl ⟨by rfl, ?_⟩) (by assumption) ?_
  rotate_left
  · (intro w hSw; (try dsimp only at hSw); go_split_ands; go_simp; try (with_reducible rfl))
  simp only [Act.put, List.setIfInBounds_toArray, List.set_cons_zero, List.set_cons_succ]
  refine wpAnyL_take 4 (oi := { dst := some 60, op := Go.Op.load 28 (Go.Operand.tmp 59), type := 28, pos := "resv.go:50", after := #[{ on := 3, ground := Go.Ground.data }], guard := none }) (v := ?_) rfl (by kernel_rfl) (by kernel_rfl) (by kernel_rfl) (by kernel_rfl) (fun _ _ _ h => h) (Or.inl ⟨by rfl, ?_⟩) (by assumption) ?_
  rotate_left
  · (intro w hSw; (try dsimp only at hSw); go_split_ands; go_simp; try (with_reducible rfl))
  simp only [Act.put, List.setIfInBounds_toArray, List.set_cons_zero, List.set_cons_succ]
  refine wpAnyL_take 5 (oi := { dst := some 61, op := Go.Op.move (Go.Operand.tmp 0), type := 23, pos := "resv.go:50", after := #[], guard := none }) (v := ?_) rfl (by kernel_rfl) (by kernel_rfl) (by kernel_rfl) (by kernel_rfl) (fun _ _ _ h => h) (Or.inl ⟨by rfl, ?_⟩) (by assumption) ?_
  rotate_left
  · (intro w hSw; (try dsimp only at hSw); go_split_ands; go_simp; try (with_reducible rfl))
  simp only [Act.put, List.setIfInBounds_toArray, List.set_cons_zero, List.set_cons_succ]
  refine wpAnyL_take 6 (oi := { dst := some 62, op := Go.Op.nilCheck (Go.Operand.tmp 61), type := 0, pos := "resv.go:50", after := #[{ on := 5, ground := Go.Ground.data }], guard := none }) (v := ?_) rfl (by kernel_rfl) (by kernel_rfl) (by kernel_rfl) (by kernel_rfl) (fun _ _ _ h => h) (Or.inl ⟨by rfl, ?_⟩) (by assumption) ?_
  rotate_left
  · (intro w hSw; (try dsimp only at hSw); go_split_ands; go_simp; try (with_reducible rfl))
  simp only [Act.put, List.setIfInBounds_toArray, List.set_cons_zero, List.set_cons_succ]
  refine wpAnyL_take 7 (oi := { dst := some 63, op := Go.Op.fieldAddr 64 (Go.Operand.tmp 62) 0, type := 0, pos := "resv.go:50", after := #[{ on := 6, ground := Go.Ground.data }], guard := none }) (v := ?_) rfl (by kernel_rfl) (by kernel_rfl) (by kernel_rfl) (by kernel_rfl) (fun _ _ _ h => h) (Or.inl ⟨by rfl, ?_⟩) (by assumption) ?_
  rotate_left
  · (intro w hSw; (try dsimp only at hSw); go_split_ands; go_simp; try (with_reducible rfl))
  simp only [Act.put, List.setIfInBounds_toArray, List.set_cons_zero, List.set_cons_succ]
  refine wpAnyL_take 8 (oi := { dst := some 64, op := Go.Op.load 28 (Go.Operand.tmp 63), type := 28, pos := "resv.go:50", after := #[{ on := 7, ground := Go.Ground.data }], guard := none }) (v := ?_) rfl (by kernel_rfl) (by kernel_rfl) (by kernel_rfl) (by kernel_rfl) (fun _ _ _ h => h) (Or.inl ⟨by rfl, ?_⟩) (by assumption) ?_
  rotate_left
  · (intro w hSw; (try dsimp only at hSw); go_split_ands; go_simp; try (with_reducible rfl))
  simp only [Act.put, List.setIfInBounds_toArray, List.set_cons_zero, List.set_cons_succ]
  refine wpAnyL_take 9 (oi := { dst := some 65, op := Go.Op.call { callee := Go.Callee.builtin Go.Builtin.len, args := #[Go.Operand.tmp 64], argTypes := #[28] }, type := 3, pos := "resv.go:50", after := #[{ on := 8, ground := Go.Ground.data }], guard := none }) (v := ?_) rfl (by kernel_rfl) (by kernel_rfl) (by kernel_rfl) (by kernel_rfl) (fun _ _ _ h => h) (Or.inl ⟨by rfl, ?_⟩) (by assumption) ?_
  rotate_left
  · (intro w hSw; (try dsimp only at hSw); go_split_ands; go_simp; try (with_reducible rfl))
  simp only [Act.put, List.setIfInBounds_toArray, List.set_cons_zero, List.set_cons_succ]
  refine wpAnyL_take 10 (oi := { dst := some 66, op := Go.Op.move (Go.Operand.tmp 0), type := 23, pos := "resv.go:50", after := #[], guard := none }) (v := ?_) rfl (by kernel_rfl) (by kernel_rfl) (by kernel_rfl) (by kernel_rfl) (fun _ _ _ h => h) (Or.inl ⟨by rfl, ?_⟩) (by assumption) ?_
  rotate_left
  · (intro w hSw; (try dsimp only at hSw); go_split_ands; go_simp; try (with_reducible rfl))
  simp only [Act.put, List.setIfInBounds_toArray, List.set_cons_zero, List.set_cons_succ]
  refine wpAnyL_take 11 (oi := { dst := some 67, op := Go.Op.nilCheck (Go.Operand.tmp 66), type := 0, pos := "resv.go:50", after := #[{ on := 10, ground := Go.Ground.data }], guard := none }) (v := ?_) rfl (by kernel_rfl) (by kernel_rfl) (by kernel_rfl) (by kernel_rfl) (fun _ _ _ h => h) (Or.inl ⟨by rfl, ?_⟩) (by assumption) ?_
  rotate_left
  · (intro w hSw; (try dsimp only at hSw); go_split_ands; go_simp; try (with_reducible rfl))
  simp only [Act.put, List.setIfInBounds_toArray, List.set_cons_zero, List.set_cons_succ]
  refine wpAnyL_take 12 (oi := { dst := some 68, op := Go.Op.fieldAddr 64 (Go.Operand.tmp 67) 0, type := 0, pos := "resv.go:50", after := #[{ on := 11, ground := Go.Ground.data }], guard := none }) (v := ?_) rfl (by kernel_rfl) (by kernel_rfl) (by kernel_rfl) (by kernel_rfl) (fun _ _ _ h => h) (Or.inl ⟨by rfl, ?_⟩) (by assumption) ?_
  rotate_left
  · (intro w hSw; (try dsimp only at hSw); go_split_ands; go_simp; try (with_reducible rfl))
  simp only [Act.put, List.setIfInBounds_toArray, List.set_cons_zero, List.set_cons_succ]
  refine wpAnyL_take 13 (oi := { dst := some 69, op := Go.Op.load 28 (Go.Operand.tmp 68), type := 28, pos := "resv.go:50", after := #[{ on := 12, ground := Go.Ground.data }], guard := none }) (v := ?_) rfl (by kernel_rfl) (by kernel_rfl) (by kernel_rfl) (by kernel_rfl) (fun _ _ _ h => h) (Or.inl ⟨by rfl, ?_⟩) (by assumption) ?_
  rotate_left
  · (intro w hSw; (try dsimp only at hSw); go_split_ands; go_simp; try (with_reducible rfl))
  simp only [Act.put, List.setIfInBounds_toArray, List.set_cons_zero, List.set_cons_succ]
  refine wpAnyL_take 14 (oi := { dst := some 70, op := Go.Op.call { callee := Go.Callee.builtin Go.Builtin.len, args := #[Go.Operand.tmp 69], argTypes := #[28] }, type := 3, pos := "resv.go:50", after := #[{ on := 13, ground := Go.Ground.data }], guard := none }) (v := ?_) rfl (by kernel_rfl) (by kernel_rfl) (by kernel_rfl) (by kernel_rfl) (fun _ _ _ h => h) (Or.inl ⟨by rfl, ?_⟩) (by assumption) ?_
  rotate_left
  · (intro w hSw; (try dsimp only at hSw); go_split_ands; go_simp; try (with_reducible rfl))
  simp only [Act.put, List.setIfInBounds_toArray, List.set_cons_zero, List.set_cons_succ]
  refine wpAnyL_take 15 (oi := { dst := some 71, op := Go.Op.slice 28 (Go.Operand.tmp 60) none (some (Go.Operand.tmp 65)) (some (Go.Operand.tmp 70)), type := 28, pos := "resv.go:50", after := #[{ on := 4, ground := Go.Ground.data }, { on := 9, ground := Go.Ground.data }, { on := 14, ground := Go.Ground.data }], guard := none }) (v := ?_) rfl (by kernel_rfl) (by kernel_rfl) (by kernel_rfl) (by kernel_rfl) (fun _ _ _ h => h) (Or.inl ⟨by rfl, ?_⟩) (by assumption) ?_
  rotate_left
  · (intro w hSw; (try dsimp only at hSw); go_split_ands; go_simp; try (with_reducible rfl))
  simp only [Act.put, List.setIfInBounds_toArray, List.set_cons_zero, List.set_cons_succ]
  refine wpAnyL_take 16 (oi := { dst := some 72, op := Go.Op.move (Go.Operand.tmp 1), type := 3, pos := "resv.go:50", after := #[], guard := none }) (v := ?_) rfl (by kernel_rfl) (by kernel_rfl) (by kernel_rfl) (by kernel_rfl) (fun _ _ _ h => h) (Or.inl ⟨by rfl, ?_⟩) (by assumption) ?_
  rotate_left
  · (intro w hSw; (try dsimp only at hSw); go_split_ands; go_simp; try (with_reducible rfl))
  simp only [Act.put, List.setIfInBounds_toArray, List.set_cons_zero, List.set_cons_succ]
  refine wpAnyL_take 17 (oi := { dst := some 73, op := Go.Op.move (Go.Operand.tmp 2), type := 3, pos := "resv.go:50", after := #[], guard := none }) (v := ?_) rfl (by kernel_rfl) (by kernel_rfl) (by kernel_rfl) (by kernel_rfl) (fun _ _ _ h => h) (Or.inl ⟨by rfl, ?_⟩) (by assumption) ?_
  rotate_left
  · (intro w hSw; (try dsimp only at hSw); go_split_ands; go_simp; try (with_reducible rfl))
  simp only [Act.put, List.setIfInBounds_toArray, List.set_cons_zero, List.set_cons_succ]
  refine wpAnyL_take 18 (oi := { dst := some 74, op := Go.Op.move (Go.Operand.tmp 3), type := 3, pos := "resv.go:50", after := #[], guard := none }) (v := ?_) rfl (by kernel_rfl) (by kernel_rfl) (by kernel_rfl) (by kernel_rfl) (fun _ _ _ h => h) (Or.inl ⟨by rfl, ?_⟩) (by assumption) ?_
  rotate_left
  · (intro w hSw; (try dsimp only at hSw); go_split_ands; go_simp; try (with_reducible rfl))
  simp only [Act.put, List.setIfInBounds_toArray, List.set_cons_zero, List.set_cons_succ]
  refine wpAnyL_take 19 (oi := { dst := some 75, op := Go.Op.build 31 #[(0, Go.Operand.tmp 72), (1, Go.Operand.tmp 73), (2, Go.Operand.tmp 74)], type := 31, pos := "resv.go:50", after := #[{ on := 16, ground := Go.Ground.data }, { on := 17, ground := Go.Ground.data }, { on := 18, ground := Go.Ground.data }], guard := none }) (v := ?_) rfl (by kernel_rfl) (by kernel_rfl) (by kernel_rfl) (by kernel_rfl) (fun _ _ _ h => h) (Or.inl ⟨by rfl, ?_⟩) (by assumption) ?_
  rotate_left
  · (intro w hSw; (try dsimp only at hSw); go_split_ands; go_simp; try (with_reducible rfl))
  simp only [Act.put, List.setIfInBounds_toArray, List.set_cons_zero, List.set_cons_succ]
  refine wpAnyL_ready (rs := [20]) (by kernel_rfl) (by simp) ?_
  refine AllReadyL.cons (o := { dst := some 76, op := Go.Op.buildSlice 28 1 #[(0, Go.Operand.tmp 75)], type := 28, pos := "resv.go:50", after := #[{ on := 19, ground := Go.Ground.data }], guard := none }) rfl (fun K hK => ?_) ?_
  · go_simp
    refine hK.out _ _ (.inr (by (refine sM ?_ hc0 fz; (repeat (first | exact HK77.out | exact Keep.refl _ _ | refine Keep.drew ?_ | refine Keep.drewN ?_ _ | refine Keep.alloc ?_ _ | refine Keep.setNew ?_ (by omega) _)); done))) (fun hS20 => ?_)
    replace hS20 := hS20.resolve_left (by decide)
    try simp only [Act.put, List.setIfInBounds_toArray, List.set_cons_zero, List.set_cons_succ]
    refine wpAnyL_ready (rs := [21]) (by kernel_rfl) (by simp) ?_
    refine AllReadyL.cons (o := { dst := some 77, op := Go.Op.call { callee := Go.Callee.builtin Go.Builtin.append, args := #[Go.Operand.tmp 71, Go.Operand.tmp 76], argTypes := #[28, 28] }, type := 28, pos := "resv.go:50", after := #[{ on := 15, ground := Go.Ground.data }, { on := 20, ground := Go.Ground.data }], guard := none }) rfl (fun K hK => ?_) ?_
    · refine step_append_grows rfl (.tmp 71) (.tmp 76) 28 rfl 31 i0 (.agg #[.int .i64 0, .int .i64 0, .int .i64 0, .int .u8 0]) 4 32 Try.underlying28 HI.out HZ.out.1 HZ.out.2.1 HZ.out.2.2 rfl (by decide) ao L.length L.length (rvE.cs L) (by rfl) HAO.out (rvE.cs_length L) (fun b hb j z hj => cells_keep (w := w3) (by (repeat (first | exact Keep.refl _ _ | exact Keep.refl _ _ | refine Keep.drew ?_ | refine Keep.drewN ?_ _ | refine Keep.alloc ?_ _ | refine Keep.setNew ?_ (by omega) _)); done) (HCS.out b hb).1 (HCS.out b hb).2.2 j z hj) ⟨w3.heap.size, 0, none⟩ 1 _ [.int .i64 s, .int .i64 y, .int .i64 f, .int .u8 0] (by rfl) rfl (fun j z hj => row_new (W := w3.drew) j z hj) (by simp [Value.oneCell']) (by omega) (by unfold maxLen; omega) (by omega) ?_
      intro v77 w77 ho77 hg77
      obtain ⟨a77, l77, c77, rfl⟩ := own_slice ho77
      have HK77 : Hid (Keep (fun _ => False) w3 w77) := Keep.grown (by (repeat (first | exact Keep.refl _ _ | exact Keep.refl _ _ | refine Keep.drew ?_ | refine Keep.drewN ?_ _ | refine Keep.alloc ?_ _ | refine Keep.setNew ?_ (by omega) _)); done) hg77 (fun x h1 h2 => by simp at h1)
      have HO77 := Lib.hid (ownsRow_base ho77 (C := w3.heap.size) (fun x hx => by have := (ho77.lt x hx).1; simp at this; omega))
      clear ho77 hg77
      refine hK.out _ _ (.inr (by (refine sM ?_ hc0 fz; (repeat (first | exact HK77.out | exact Keep.refl _ _ | refine Keep.drew ?_ | refine Keep.drewN ?_ _ | refine Keep.alloc ?_ _ | refine Keep.setNew ?_ (by omega) _)); done))) (fun hS21 => ?_)
      replace hS21 := hS21.resolve_left (by decide)
      try simp only [Act.put, List.setIfInBounds_toArray, List.set_cons_zero, List.set_cons_succ]
      refine wpAnyL_ready (rs := [22]) (by kernel_rfl) (by simp) ?_
      refine AllReadyL.cons (o := { dst := some 78, op := Go.Op.nilCheck (Go.Operand.tmp 56), type := 0, pos := "resv.go:50", after := #[{ on := 0, ground := Go.Ground.data }, { on := 0, ground := Go.Ground.phase }, { on := 1, ground := Go.Ground.phase }, { on := 2, ground := Go.Ground.phase }, { on := 3, ground := Go.Ground.phase }, { on := 4, ground := Go.Ground.phase }, { on := 5, ground := Go.Ground.phase }, { on := 6, ground := Go.Ground.phase }, { on := 7, ground := Go.Ground.phase }, { on := 8, ground := Go.Ground.phase }, { on := 9, ground := Go.Ground.phase }, { on := 10, ground := Go.Ground.phase }, { on := 11, ground := Go.Ground.phase }, { on := 12, ground := Go.Ground.phase }, { on := 13, ground := Go.Ground.phase }, { on := 14, ground := Go.Ground.phase }, { on := 15, ground := Go.Ground.phase }, { on := 16, ground := Go.Ground.phase }, { on := 17, ground := Go.Ground.phase }, { on := 18, ground := Go.Ground.phase }, { on := 19, ground := Go.Ground.phase }, { on := 20, ground := Go.Ground.phase }, { on := 21, ground := Go.Ground.phase }], guard := none }) rfl (fun K hK => ?_) ?_
      · go_simp
        refine hK.out _ _ (.inr (by (refine sM ?_ hc0 fz; (repeat (first | exact HK77.out | exact Keep.refl _ _ | refine Keep.drew ?_ | refine Keep.drewN ?_ _ | refine Keep.alloc ?_ _ | refine Keep.setNew ?_ (by omega) _)); done))) (fun hS22 => ?_)
        replace hS22 := hS22.resolve_left (by decide)
        try simp only [Act.put, List.setIfInBounds_toArray, List.set_cons_zero, List.set_cons_succ]
        refine wpAnyL_take 23 (oi := { dst := some 79, op := Go.Op.fieldAddr 64 (Go.Operand.tmp 78) 0, type := 0, pos := "resv.go:50", after := #[{ on := 22, ground := Go.Ground.data }, { on := 0, ground := Go.Ground.phase }, { on := 1, ground := Go.Ground.phase }, { on := 2, ground := Go.Ground.phase }, { on := 3, ground := Go.Ground.phase }, { on := 4, ground := Go.Ground.phase }, { on := 5, ground := Go.Ground.phase }, { on := 6, ground := Go.Ground.phase }, { on := 7, ground := Go.Ground.phase }, { on := 8, ground := Go.Ground.phase }, { on := 9, ground := Go.Ground.phase }, { on := 10, ground := Go.Ground.phase }, { on := 11, ground := Go.Ground.phase }, { on := 12, ground := Go.Ground.phase }, { on := 13, ground := Go.Ground.phase }, { on := 14, ground := Go.Ground.phase }, { on := 15, ground := Go.Ground.phase }, { on := 16, ground := Go.Ground.phase }, { on := 17, ground := Go.Ground.phase }, { on := 18, ground := Go.Ground.phase }, { on := 19, ground := Go.Ground.phase }, { on := 20, ground := Go.Ground.phase }, { on := 21, ground := Go.Ground.phase }], guard := none }) (v := ?_) rfl (by kernel_rfl) (by kernel_rfl) (by kernel_rfl) (by kernel_rfl) (fun _ _ _ h => h) (Or.inl ⟨by rfl, ?_⟩) (by assumption) ?_
        rotate_left
        · (intro w hSw; (try dsimp only at hSw); go_split_ands; go_simp; try (with_reducible rfl))
        simp only [Act.put, List.setIfInBounds_toArray, List.set_cons_zero, List.set_cons_succ]
        refine wpAnyL_ready (rs := [24]) (by kernel_rfl) (by simp) ?_
        refine AllReadyL.cons (o := { dst := none, op := Go.Op.store 28 (Go.Operand.tmp 79) (Go.Operand.tmp 77), type := 0, pos := "resv.go:50", after := #[{ on := 23, ground := Go.Ground.data }, { on := 21, ground := Go.Ground.data }, { on := 21, ground := Go.Ground.chain }, { on := 0, ground := Go.Ground.phase }, { on := 1, ground := Go.Ground.phase }, { on := 2, ground := Go.Ground.phase }, { on := 3, ground := Go.Ground.phase }, { on := 4, ground := Go.Ground.phase }, { on := 5, ground := Go.Ground.phase }, { on := 6, ground := Go.Ground.phase }, { on := 7, ground := Go.Ground.phase }, { on := 8, ground := Go.Ground.phase }, { on := 9, ground := Go.Ground.phase }, { on := 10, ground := Go.Ground.phase }, { on := 11, ground := Go.Ground.phase }, { on := 12, ground := Go.Ground.phase }, { on := 13, ground := Go.Ground.phase }, { on := 14, ground := Go.Ground.phase }, { on := 15, ground := Go.Ground.phase }, { on := 16, ground := Go.Ground.phase }, { on := 17, ground := Go.Ground.phase }, { on := 18, ground := Go.Ground.phase }, { on := 19, ground := Go.Ground.phase }, { on := 20, ground := Go.Ground.phase }, { on := 21, ground := Go.Ground.phase }], guard := none }) rfl (fun K hK => ?_) ?_
        · go_simp
          refine hK.out _ _ (.inl rfl) (fun _ => ?_)
          try simp only [Act.put, List.setIfInBounds_toArray, List.set_cons_zero, List.set_cons_succ]
          refine wpAnyL_done (by kernel_rfl) ?_ _
          refine NoPanic.normal ?_
          have hq := put_close (L' := L ++ [⟨s, y, f, 0⟩]) HR3.out (by omega) (by simp; omega) HK77.out HO77.out (by simp) (by rw [rvE.cs_append, rvE.cs_one]; first | done | rfl)
          go_wp2
          go_ret
          first | exact ⟨rfl, _, hq.1, (K3.out.mono (fun _ _ h => h.elim)).trans hq.2.1, fun z hz => by have := hq.2.2 z hz; omega⟩ | exact ⟨_, rfl, hq.1, (K3.out.mono (fun _ _ h => h.elim)).trans hq.2.1, fun z hz => by have := hq.2.2 z hz; omega⟩
        exact AllReadyL.nil
      exact AllReadyL.nil
    exact AllReadyL.nil
  exact AllReadyL.nil

end Go.Proofs.Ytmbgebmhdofdaaa
