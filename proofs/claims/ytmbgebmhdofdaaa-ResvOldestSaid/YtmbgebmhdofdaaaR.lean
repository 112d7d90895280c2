/- Reservations: Fill, Clear, in any list. -/
import Derived.Test.YtmbgebmhdofdaaaQ
set_option linter.unusedVariables false
set_option linter.unusedSimpArgs false
namespace Go.Proofs.Ytmbgebmhdofdaaa
open Go.RowKit Go.Own

set_option maxHeartbeats 1000000 in
theorem fillL_none (B p : Nat) (v : Value) (L : List Rv) (s y : Int) (hy : i64R y) (hw : whI L s (y / 8 * 8) = -1) (w : World) (hR : RepR w B p v L) :
    Calls Try.prog 14 #[.pointer (some ⟨p, 0, none⟩), .int .i64 s, .int .i64 y] w fun e w' => e = .returned (.tuple #[.int .i64 0, .int .i64 6]) ∧ Keep (fun _ => False) w w' := by
  have hl := hR.hl
  have HWI : Hid (Calls Try.prog 31 #[.pointer (some ⟨p, 0, none⟩), .int .i64 s, .int .i64 y] w fun e w' => e = .returned (.int .i64 (-1)) ∧ Keep (fun _ => False) w w') := by
    have := where_any B p _ L s y hy hl w hR
    rw [hw] at this; exact this
  clear hw
  go_enter Try.func14, Try.ntmps14
  go_wp2_with (go_at_call 31; refine HWI.out.mono ?_; rintro e w1 ⟨rfl, hk1⟩)
  go_ret2
  exact ⟨rfl, hk1⟩
set_option maxHeartbeats 1000000 in
theorem clearL_none (B p : Nat) (v : Value) (L : List Rv) (s y : Int) (hy : i64R y) (hw : whI L s (y / 8 * 8) = -1) (w : World) (hR : RepR w B p v L) :
    Calls Try.prog 15 #[.pointer (some ⟨p, 0, none⟩), .int .i64 s, .int .i64 y] w fun e w' => e = .returned (.int .i64 6) ∧ Keep (fun _ => False) w w' := by
  have hl := hR.hl
  have HWI : Hid (Calls Try.prog 31 #[.pointer (some ⟨p, 0, none⟩), .int .i64 s, .int .i64 y] w fun e w' => e = .returned (.int .i64 (-1)) ∧ Keep (fun _ => False) w w') := by
    have := where_any B p _ L s y hy hl w hR
    rw [hw] at this; exact this
  clear hw
  go_enter Try.func15, Try.ntmps15
  go_wp2_with (go_at_call 31; refine HWI.out.mono ?_; rintro e w1 ⟨rfl, hk1⟩)
  go_quiet (fail)
  go_wp2
  go_ret
  exact ⟨rfl, hk1.drewN _⟩

set_option maxHeartbeats 1000000 in
theorem fillL_dup (B p k r : Nat) (v : Value) (L : List Rv) (x : Rv) (s y : Int) (hy : i64R y) (hw : whI L s (y / 8 * 8) = k) (hk : k < L.length) (he : L[k] = x) (hr : y % 8 = r) (hb : x.b < 256) (w : World) (hR : RepR w B p v L) (hd : x.b &&& 2 ^ r ≠ 0) :
    Calls Try.prog 14 #[.pointer (some ⟨p, 0, none⟩), .int .i64 s, .int .i64 y] w fun e w' => e = .returned (.tuple #[.int .i64 0, .int .i64 7]) ∧ Keep (fun _ => False) w w' := by
  have hl := hR.hl
  obtain ⟨g, cap, rfl, hBg, hcap, hgl⟩ := hR.hv.form (by intro e; subst e; simp at hk)
  have hr8 : r < 8 := by omega
  have hbit : 2 ^ r < 256 := by have := Nat.pow_le_pow_right (show 0 < 2 by decide) (show r ≤ 7 by omega); omega
  have hand := u8_and_nat x.b (2 ^ r) hb hbit
  have htest : (((x.b &&& 2 ^ r : Nat) : Int) != 0) = true := by simpa using hd
  have H1 := Lib.hid hd
  clear hd
  skip
  have HBQ : Hid (∀ W, Calls Try.prog 32 #[.int .i64 y] W fun e w' => e = .returned (.int .u8 ((2 ^ r : Nat) : Int)) ∧ W = w') := fun W => bit_int y hy r hr W
  have HWI : Hid (∀ W, Keep (fun _ => False) w W → Calls Try.prog 31 #[.pointer (some ⟨p, 0, none⟩), .int .i64 s, .int .i64 y] W fun e w' => e = .returned (.int .i64 k) ∧ Keep (fun _ => False) W w') := fun W kk => by
    have := where_any B p _ L s y hy hl W (hR.keep0 kk)
    rw [hw] at this; exact this
  have HE := Lib.hid he
  clear hw hr he
  obtain ⟨q, hq⟩ : ∃ q, 2 ^ r = q := ⟨_, rfl⟩
  rw [hq] at hand htest hbit HBQ 
  clear hq
  go_enter Try.func14, Try.ntmps14
  go_wp2_with (go_at_call 31; go_loud (refine (HWI.out _ (Keep.refl _ _)).mono ?_; rintro e w1 ⟨rfl, hk1⟩; have HR1 := Lib.hid (hR.keep0 hk1); have HK1 := Lib.hid hk1; clear hk1; have hc0 := HR1.out.c0; obtain ⟨c0, c1, c2, c3⟩ := rv_cells HR1.out.hv hk; rw [HE.out] at c0 c1 c2 c3))
  go_quiet ((go_at_call 32; exact Calls.quiet_of_same ((HBQ.out _).mono fun e w' h => ⟨h.1, h.2.symm⟩)))
  go_wp2
  go_ret2
  exact ⟨rfl, HK1.out.drewN _⟩

set_option maxHeartbeats 1000000 in
theorem clearL_no (B p k r : Nat) (v : Value) (L : List Rv) (x : Rv) (s y : Int) (hy : i64R y) (hw : whI L s (y / 8 * 8) = k) (hk : k < L.length) (he : L[k] = x) (hr : y % 8 = r) (hb : x.b < 256) (w : World) (hR : RepR w B p v L) (hd : x.b &&& 2 ^ r = 0) :
    Calls Try.prog 15 #[.pointer (some ⟨p, 0, none⟩), .int .i64 s, .int .i64 y] w fun e w' => e = .returned (.int .i64 6) ∧ Keep (fun _ => False) w w' := by
  have hl := hR.hl
  obtain ⟨g, cap, rfl, hBg, hcap, hgl⟩ := hR.hv.form (by intro e; subst e; simp at hk)
  have hr8 : r < 8 := by omega
  have hbit : 2 ^ r < 256 := by have := Nat.pow_le_pow_right (show 0 < 2 by decide) (show r ≤ 7 by omega); omega
  have hand := u8_and_nat x.b (2 ^ r) hb hbit
  have htest : (((x.b &&& 2 ^ r : Nat) : Int) == 0) = true := by simpa using hd
  have H1 := Lib.hid hd
  clear hd
  skip
  have HBQ : Hid (∀ W, Calls Try.prog 32 #[.int .i64 y] W fun e w' => e = .returned (.int .u8 ((2 ^ r : Nat) : Int)) ∧ W = w') := fun W => bit_int y hy r hr W
  have HWI : Hid (∀ W, Keep (fun _ => False) w W → Calls Try.prog 31 #[.pointer (some ⟨p, 0, none⟩), .int .i64 s, .int .i64 y] W fun e w' => e = .returned (.int .i64 k) ∧ Keep (fun _ => False) W w') := fun W kk => by
    have := where_any B p _ L s y hy hl W (hR.keep0 kk)
    rw [hw] at this; exact this
  have HE := Lib.hid he
  clear hw hr he
  obtain ⟨q, hq⟩ : ∃ q, 2 ^ r = q := ⟨_, rfl⟩
  rw [hq] at hand htest hbit HBQ 
  clear hq
  go_enter Try.func15, Try.ntmps15
  go_wp2_with (go_at_call 31; go_loud (refine (HWI.out _ (Keep.refl _ _)).mono ?_; rintro e w1 ⟨rfl, hk1⟩; have HR1 := Lib.hid (hR.keep0 hk1); have HK1 := Lib.hid hk1; clear hk1; have hc0 := HR1.out.c0; obtain ⟨c0, c1, c2, c3⟩ := rv_cells HR1.out.hv hk; rw [HE.out] at c0 c1 c2 c3))
  go_quiet ((go_at_call 32; exact Calls.quiet_of_same ((HBQ.out _).mono fun e w' h => ⟨h.1, h.2.symm⟩)))
  go_wp2
  go_ret
  exact ⟨rfl, HK1.out.drewN _⟩

set_option maxHeartbeats 4000000 in
theorem fillL_new (B p k r : Nat) (v : Value) (L : List Rv) (x : Rv) (s y : Int) (hy : i64R y) (hw : whI L s (y / 8 * 8) = k) (hk : k < L.length) (he : L[k] = x) (hr : y % 8 = r) (hb : x.b < 256) (hx : 0 ≤ x.p ∧ x.p < 100000 ∧ x.p ≤ y ∧ y < x.p + 8 ∧ 0 ≤ x.f ∧ x.f < 100000) (w : World) (hB : B ≤ w.heap.size) (hR : RepR w B p v L) (hd : x.b &&& 2 ^ r = 0) :
    Calls Try.prog 14 #[.pointer (some ⟨p, 0, none⟩), .int .i64 s, .int .i64 y] w fun e w' => ∃ v', e = .returned (.tuple #[.int .i64 (x.f + y - x.p), .int .i64 0]) ∧ RepR w' B p v' (rmv L k ++ [⟨x.s, x.p, x.f, x.b ||| 2 ^ r⟩]) ∧ Keep (fun z => z = p) w w' ∧ (∀ z, v'.ownBlock = some z → w.heap.size ≤ z) := by
  have hl := hR.hl
  obtain ⟨g, cap, rfl, hBg, hcap, hgl⟩ := hR.hv.form (by intro e; subst e; simp at hk)
  have hr8 : r < 8 := by omega
  have hbit : 2 ^ r < 256 := by have := Nat.pow_le_pow_right (show 0 < 2 by decide) (show r ≤ 7 by omega); omega
  have hand := u8_and_nat x.b (2 ^ r) hb hbit
  have htest : (((x.b &&& 2 ^ r : Nat) : Int) != 0) = false := by simpa using hd
  have H1 := Lib.hid hd
  clear hd
  have hor := u8_or_nat x.b (2 ^ r) hb hbit
  have HBQ : Hid (∀ W, Calls Try.prog 32 #[.int .i64 y] W fun e w' => e = .returned (.int .u8 ((2 ^ r : Nat) : Int)) ∧ W = w') := fun W => bit_int y hy r hr W
  have HWI : Hid (∀ W, Keep (fun _ => False) w W → Calls Try.prog 31 #[.pointer (some ⟨p, 0, none⟩), .int .i64 s, .int .i64 y] W fun e w' => e = .returned (.int .i64 k) ∧ Keep (fun _ => False) W w') := fun W kk => by
    have := where_any B p _ L s y hy hl W (hR.keep0 kk)
    rw [hw] at this; exact this
  have HE := Lib.hid he
  clear hw hr he
  obtain ⟨q, hq⟩ : ∃ q, 2 ^ r = q := ⟨_, rfl⟩
  rw [hq] at hand htest hbit HBQ hor ⊢
  clear hq
  obtain ⟨m, hm⟩ : ∃ m, x.b ||| q = m := ⟨_, rfl⟩
  rw [hm] at hor ⊢
  clear hm
  have hwa : IntKind.i64.wrap (x.f + y) = x.f + y := IntWalk.i64_in _ (by omega)
  have hwb : IntKind.i64.wrap (x.f + y - x.p) = x.f + y - x.p := IntWalk.i64_in _ (by omega)
  go_enter Try.func14, Try.ntmps14
  go_wp2_with (go_at_call 31; go_loud (refine (HWI.out _ (Keep.refl _ _)).mono ?_; rintro e w1 ⟨rfl, hk1⟩; have HR1 := Lib.hid (hR.keep0 hk1); have HK1 := Lib.hid hk1; clear hk1; have hc0 := HR1.out.c0; obtain ⟨c0, c1, c2, c3⟩ := rv_cells HR1.out.hv hk; rw [HE.out] at c0 c1 c2 c3))
  go_quiet ((go_at_call 32; exact Calls.quiet_of_same ((HBQ.out _).mono fun e w' h => ⟨h.1, h.2.symm⟩)))
  generalize hw9 : World.drewN w1 nq = w9
  have HK9 : Hid (Keep (fun _ => False) w w9) := by rw [← hw9]; exact (by (repeat (first | exact HK1.out | exact Keep.refl _ _ | refine Keep.drew ?_ | refine Keep.drewN ?_ _ | refine Keep.alloc ?_ _ | refine Keep.setNew ?_ (by omega) _)); done)
  clear hw9 hc0 c0 c1 c2 c3
  have HR9 := Lib.hid (hR.keep0 HK9.out)
  have hc0 := HR9.out.c0
  have hs9 := HK9.out.size
  obtain ⟨c0, c1, c2, c3⟩ := rv_cells HR9.out.hv hk
  rw [HE.out] at c0 c1 c2 c3
  go_wp2
  have HN := Lib.hid (heap_alloc_new w9 (.cells #[.int .i64 x.s, .int .i64 x.p, .int .i64 x.f, .int .u8 x.b] 31))
  have HRA := Lib.hid (HR9.out.keep0 (w' := w9.alloc (.cells #[.int .i64 x.s, .int .i64 x.p, .int .i64 x.f, .int .u8 x.b] 31)) (by (repeat (first | exact Keep.refl _ _ | exact Keep.refl _ _ | refine Keep.drew ?_ | refine Keep.drewN ?_ _ | refine Keep.alloc ?_ _ | refine Keep.setNew ?_ (by omega) _)); done))
  have KA : Hid (Keep (fun _ => False) w (w9.alloc (.cells #[.int .i64 x.s, .int .i64 x.p, .int .i64 x.f, .int .u8 x.b] 31))) := HK9.out.alloc _
  clear hc0 c0 c1 c2 c3
  have hnb0 : w.heap.size ≤ w9.heap.size := hs9
  obtain ⟨nb, hnb⟩ : ∃ z, w9.heap.size = z := ⟨_, rfl⟩
  obtain ⟨wa, hwz⟩ : ∃ z, w9.alloc (.cells #[.int .i64 x.s, .int .i64 x.p, .int .i64 x.f, .int .u8 x.b] 31) = z := ⟨_, rfl⟩
  rw [hwz] at HN HRA KA ⊢
  rw [hnb] at HN hnb0 ⊢
  clear hwz HR9 HR1
  have hnbp : nb ≠ p := by have := block_lt hR.hp; omega
  have hgn : g ≠ nb := by have := (hR.hv.lt g rfl).2; omega
  obtain ⟨b0, b1, b2, b3⟩ := cells4 HN.out
  have fz : wa.frozen? ⟨nb, 3, none⟩ = false := frozen_block HN.out
  have KS : Hid (Keep (fun z => z = nb) wa (wa.drew.setCell ⟨nb, 3, none⟩ (.int .u8 m))) := ((Keep.refl (fun z => z = nb) wa).drew).setCell (p := ⟨nb, 3, none⟩) (fun _ => rfl) _
  have HM : Hid ((wa.drew.setCell ⟨nb, 3, none⟩ (.int .u8 m)).heap[nb]? = some (.cells #[.int .i64 x.s, .int .i64 x.p, .int .i64 x.f, .int .u8 m] 31 (0, 0))) := by
    unfold Hid
    rw [heap_setCell_eq (w := wa.drew) HN.out]; rfl
  have HRB := Lib.hid (HRA.out.keep KS.out (Ne.symm hnbp) (fun z hz e => by simp [Value.ownBlock] at hz; omega))
  have KB : Hid (Keep (fun _ => False) w (wa.drew.setCell ⟨nb, 3, none⟩ (.int .u8 m))) := (KA.out.drew).setNew (by omega) _
  refine wp_region_noPanic ?_
  refine wp_region_L (fun w' => w'.cell? ⟨nb, 3, none⟩ = some (.int .u8 x.b) ∧ w'.frozen? ⟨nb, 3, none⟩ = false) 6 (by kernel_rfl) (by (exact ⟨b3, fz⟩)) (fun hS0 => ?_)
  refine wpAnyL_take 0 (oi := { dst := some 39, op := Go.Op.fieldAddr 31 (Go.Operand.tmp 9) 3, type := 0, pos := "resv.go:70", after := #[], guard := none }) (v := ?_) rfl (by kernel_rfl) (by kernel_rfl) (by kernel_rfl) (by kernel_rfl) (fun _ _ _ h => h) (Or.inl ⟨by rfl, ?_⟩) (by assumption) ?_
  rotate_left
  · (intro w hSw; (try dsimp only at hSw); go_split_ands; go_simp; try (with_reducible rfl))
  simp only [Act.put, List.setIfInBounds_toArray, List.set_cons_zero, List.set_cons_succ]
  refine wpAnyL_take 1 (oi := { dst := some 40, op := Go.Op.load 5 (Go.Operand.tmp 39), type := 5, pos := "resv.go:70", after := #[{ on := 0, ground := Go.Ground.data }], guard := none }) (v := ?_) rfl (by kernel_rfl) (by kernel_rfl) (by kernel_rfl) (by kernel_rfl) (fun _ _ _ h => h) (Or.inl ⟨by rfl, ?_⟩) (by assumption) ?_
  rotate_left
  · (intro w hSw; (try dsimp only at hSw); go_split_ands; go_simp; try (with_reducible rfl))
  simp only [Act.put, List.setIfInBounds_toArray, List.set_cons_zero, List.set_cons_succ]
  refine wpAnyL_take 2 (oi := { dst := some 41, op := Go.Op.move (Go.Operand.tmp 2), type := 3, pos := "resv.go:70", after := #[], guard := none }) (v := ?_) rfl (by kernel_rfl) (by kernel_rfl) (by kernel_rfl) (by kernel_rfl) (fun _ _ _ h => h) (Or.inl ⟨by rfl, ?_⟩) (by assumption) ?_
  rotate_left
  · (intro w hSw; (try dsimp only at hSw); go_split_ands; go_simp; try (with_reducible rfl))
  simp only [Act.put, List.setIfInBounds_toArray, List.set_cons_zero, List.set_cons_succ]
  refine wpAnyL_ready (rs := [3]) (by kernel_rfl) (by simp) ?_
  refine AllReadyL.cons (o := { dst := some 42, op := Go.Op.call { callee := Go.Callee.value (Go.Operand.func 32), args := #[Go.Operand.tmp 41], argTypes := #[3] }, type := 5, pos := "resv.go:70", after := #[{ on := 2, ground := Go.Ground.data }], guard := none }) rfl (fun K hK => ?_) ?_
  · go_simp
    go_at_call 32
    refine (HBQ.out _).mono ?_
    rintro e w11 ⟨rfl, rfl⟩
    refine hK.out _ _ (.inr (by (exact ⟨b3, fz⟩))) (fun hS3 => ?_)
    replace hS3 := hS3.resolve_left (by decide)
    try simp only [Act.put, List.setIfInBounds_toArray, List.set_cons_zero, List.set_cons_succ]
    refine wpAnyL_take 4 (oi := { dst := some 43, op := Go.Op.binOp Go.BinOp.or 5 (Go.Operand.tmp 40) (Go.Operand.tmp 42) 5, type := 5, pos := "resv.go:70", after := #[{ on := 1, ground := Go.Ground.data }, { on := 3, ground := Go.Ground.data }], guard := none }) (v := ?_) rfl (by kernel_rfl) (by kernel_rfl) (by kernel_rfl) (by kernel_rfl) (fun _ _ _ h => h) (Or.inl ⟨by rfl, ?_⟩) (by assumption) ?_
    rotate_left
    · (intro w hSw; (try dsimp only at hSw); go_split_ands; go_simp; try (with_reducible rfl))
    simp only [Act.put, List.setIfInBounds_toArray, List.set_cons_zero, List.set_cons_succ]
    refine wpAnyL_take 5 (oi := { dst := some 44, op := Go.Op.fieldAddr 31 (Go.Operand.tmp 9) 3, type := 0, pos := "resv.go:70", after := #[{ on := 0, ground := Go.Ground.phase }, { on := 1, ground := Go.Ground.phase }, { on := 2, ground := Go.Ground.phase }, { on := 3, ground := Go.Ground.phase }, { on := 4, ground := Go.Ground.phase }], guard := none }) (v := ?_) rfl (by kernel_rfl) (by kernel_rfl) (by kernel_rfl) (by kernel_rfl) (fun _ _ _ h => h) (Or.inl ⟨by rfl, ?_⟩) (by assumption) ?_
    rotate_left
    · (intro w hSw; (try dsimp only at hSw); go_split_ands; go_simp; try (with_reducible rfl))
    simp only [Act.put, List.setIfInBounds_toArray, List.set_cons_zero, List.set_cons_succ]
    refine wpAnyL_ready (rs := [6]) (by kernel_rfl) (by simp) ?_
    refine AllReadyL.cons (o := { dst := none, op := Go.Op.store 5 (Go.Operand.tmp 44) (Go.Operand.tmp 43), type := 0, pos := "resv.go:70", after := #[{ on := 5, ground := Go.Ground.data }, { on := 4, ground := Go.Ground.data }, { on := 3, ground := Go.Ground.chain }, { on := 0, ground := Go.Ground.phase }, { on := 1, ground := Go.Ground.phase }, { on := 2, ground := Go.Ground.phase }, { on := 3, ground := Go.Ground.phase }, { on := 4, ground := Go.Ground.phase }], guard := none }) rfl (fun K hK => ?_) ?_
    · go_simp
      refine hK.out _ _ (.inl rfl) (fun _ => ?_)
      try simp only [Act.put, List.setIfInBounds_toArray, List.set_cons_zero, List.set_cons_succ]
      refine wpAnyL_done (by kernel_rfl) ?_ _
      refine NoPanic.normal ?_
      go_wp2_with (go_at_call 33; go_loud (refine (touch_any B p k _ L ⟨x.s, x.p, x.f, m⟩ hk _ (by have := KB.out.size; omega) HRB.out).mono ?_; rintro e wd ⟨rfl, vd, hRd, hkd, hvd⟩; have HRD := Lib.hid hRd; have HKD := Lib.hid hkd; have HVD := Lib.hid hvd; clear hRd hkd hvd; obtain ⟨b0, b1, b2, b3⟩ := cells4 ((HKD.out.block nb (block_lt HM.out) hnbp).trans HM.out)))
      go_ret2
      have hsb := KB.out.size
      first | exact ⟨rfl, _, HRD.out, (KB.out.mono (fun _ _ h => h.elim)).trans HKD.out, fun z hz => by have := HVD.out z hz; omega⟩ | exact ⟨_, rfl, HRD.out, (KB.out.mono (fun _ _ h => h.elim)).trans HKD.out, fun z hz => by have := HVD.out z hz; omega⟩
    exact AllReadyL.nil
  exact AllReadyL.nil

set_option maxHeartbeats 4000000 in
theorem clearL_yes (B p k r : Nat) (v : Value) (L : List Rv) (x : Rv) (s y : Int) (hy : i64R y) (hw : whI L s (y / 8 * 8) = k) (hk : k < L.length) (he : L[k] = x) (hr : y % 8 = r) (hb : x.b < 256) (w : World) (hB : B ≤ w.heap.size) (hR : RepR w B p v L) (hd : x.b &&& 2 ^ r ≠ 0) :
    Calls Try.prog 15 #[.pointer (some ⟨p, 0, none⟩), .int .i64 s, .int .i64 y] w fun e w' => ∃ v', e = .returned (.int .i64 0) ∧ RepR w' B p v' (rmv L k ++ [⟨x.s, x.p, x.f, x.b &&& (255 - 2 ^ r)⟩]) ∧ Keep (fun z => z = p) w w' ∧ (∀ z, v'.ownBlock = some z → w.heap.size ≤ z) := by
  have hl := hR.hl
  obtain ⟨g, cap, rfl, hBg, hcap, hgl⟩ := hR.hv.form (by intro e; subst e; simp at hk)
  have hr8 : r < 8 := by omega
  have hbit : 2 ^ r < 256 := by have := Nat.pow_le_pow_right (show 0 < 2 by decide) (show r ≤ 7 by omega); omega
  have hand := u8_and_nat x.b (2 ^ r) hb hbit
  have htest : (((x.b &&& 2 ^ r : Nat) : Int) == 0) = false := by simpa using hd
  have H1 := Lib.hid hd
  clear hd
  have hor := u8_andNot_nat x.b (2 ^ r) hb hbit
  have HBQ : Hid (∀ W, Calls Try.prog 32 #[.int .i64 y] W fun e w' => e = .returned (.int .u8 ((2 ^ r : Nat) : Int)) ∧ W = w') := fun W => bit_int y hy r hr W
  have HWI : Hid (∀ W, Keep (fun _ => False) w W → Calls Try.prog 31 #[.pointer (some ⟨p, 0, none⟩), .int .i64 s, .int .i64 y] W fun e w' => e = .returned (.int .i64 k) ∧ Keep (fun _ => False) W w') := fun W kk => by
    have := where_any B p _ L s y hy hl W (hR.keep0 kk)
    rw [hw] at this; exact this
  have HE := Lib.hid he
  clear hw hr he
  obtain ⟨q, hq⟩ : ∃ q, 2 ^ r = q := ⟨_, rfl⟩
  rw [hq] at hand htest hbit HBQ hor ⊢
  clear hq
  obtain ⟨m, hm⟩ : ∃ m, x.b &&& (255 - q) = m := ⟨_, rfl⟩
  rw [hm] at hor ⊢
  clear hm
  go_enter Try.func15, Try.ntmps15
  go_wp2_with (go_at_call 31; go_loud (refine (HWI.out _ (Keep.refl _ _)).mono ?_; rintro e w1 ⟨rfl, hk1⟩; have HR1 := Lib.hid (hR.keep0 hk1); have HK1 := Lib.hid hk1; clear hk1; have hc0 := HR1.out.c0; obtain ⟨c0, c1, c2, c3⟩ := rv_cells HR1.out.hv hk; rw [HE.out] at c0 c1 c2 c3))
  go_quiet ((go_at_call 32; exact Calls.quiet_of_same ((HBQ.out _).mono fun e w' h => ⟨h.1, h.2.symm⟩)))
  generalize hw9 : World.drewN w1 nq = w9
  have HK9 : Hid (Keep (fun _ => False) w w9) := by rw [← hw9]; exact (by (repeat (first | exact HK1.out | exact Keep.refl _ _ | refine Keep.drew ?_ | refine Keep.drewN ?_ _ | refine Keep.alloc ?_ _ | refine Keep.setNew ?_ (by omega) _)); done)
  clear hw9 hc0 c0 c1 c2 c3
  have HR9 := Lib.hid (hR.keep0 HK9.out)
  have hc0 := HR9.out.c0
  have hs9 := HK9.out.size
  obtain ⟨c0, c1, c2, c3⟩ := rv_cells HR9.out.hv hk
  rw [HE.out] at c0 c1 c2 c3
  go_wp2
  have HN := Lib.hid (heap_alloc_new w9 (.cells #[.int .i64 x.s, .int .i64 x.p, .int .i64 x.f, .int .u8 x.b] 31))
  have HRA := Lib.hid (HR9.out.keep0 (w' := w9.alloc (.cells #[.int .i64 x.s, .int .i64 x.p, .int .i64 x.f, .int .u8 x.b] 31)) (by (repeat (first | exact Keep.refl _ _ | exact Keep.refl _ _ | refine Keep.drew ?_ | refine Keep.drewN ?_ _ | refine Keep.alloc ?_ _ | refine Keep.setNew ?_ (by omega) _)); done))
  have KA : Hid (Keep (fun _ => False) w (w9.alloc (.cells #[.int .i64 x.s, .int .i64 x.p, .int .i64 x.f, .int .u8 x.b] 31))) := HK9.out.alloc _
  clear hc0 c0 c1 c2 c3
  have hnb0 : w.heap.size ≤ w9.heap.size := hs9
  obtain ⟨nb, hnb⟩ : ∃ z, w9.heap.size = z := ⟨_, rfl⟩
  obtain ⟨wa, hwz⟩ : ∃ z, w9.alloc (.cells #[.int .i64 x.s, .int .i64 x.p, .int .i64 x.f, .int .u8 x.b] 31) = z := ⟨_, rfl⟩
  rw [hwz] at HN HRA KA ⊢
  rw [hnb] at HN hnb0 ⊢
  clear hwz HR9 HR1
  have hnbp : nb ≠ p := by have := block_lt hR.hp; omega
  have hgn : g ≠ nb := by have := (hR.hv.lt g rfl).2; omega
  obtain ⟨b0, b1, b2, b3⟩ := cells4 HN.out
  have fz : wa.frozen? ⟨nb, 3, none⟩ = false := frozen_block HN.out
  have KS : Hid (Keep (fun z => z = nb) wa (wa.drew.setCell ⟨nb, 3, none⟩ (.int .u8 m))) := ((Keep.refl (fun z => z = nb) wa).drew).setCell (p := ⟨nb, 3, none⟩) (fun _ => rfl) _
  have HM : Hid ((wa.drew.setCell ⟨nb, 3, none⟩ (.int .u8 m)).heap[nb]? = some (.cells #[.int .i64 x.s, .int .i64 x.p, .int .i64 x.f, .int .u8 m] 31 (0, 0))) := by
    unfold Hid
    rw [heap_setCell_eq (w := wa.drew) HN.out]; rfl
  have HRB := Lib.hid (HRA.out.keep KS.out (Ne.symm hnbp) (fun z hz e => by simp [Value.ownBlock] at hz; omega))
  have KB : Hid (Keep (fun _ => False) w (wa.drew.setCell ⟨nb, 3, none⟩ (.int .u8 m))) := (KA.out.drew).setNew (by omega) _
  refine wp_region_noPanic ?_
  refine wp_region_L (fun w' => w'.cell? ⟨nb, 3, none⟩ = some (.int .u8 x.b) ∧ w'.frozen? ⟨nb, 3, none⟩ = false) 6 (by kernel_rfl) (by (exact ⟨b3, fz⟩)) (fun hS0 => ?_)
  refine wpAnyL_take 0 (oi := { dst := some 38, op := Go.Op.fieldAddr 31 (Go.Operand.tmp 8) 3, type := 0, pos := "resv.go:85", after := #[], guard := none }) (v := ?_) rfl (by kernel_rfl) (by kernel_rfl) (by kernel_rfl) (by kernel_rfl) (fun _ _ _ h => h) (Or.inl ⟨by rfl, ?_⟩) (by assumption) ?_
  rotate_left
  · (intro w hSw; (try dsimp only at hSw); go_split_ands; go_simp; try (with_reducible rfl))
  simp only [Act.put, List.setIfInBounds_toArray, List.set_cons_zero, List.set_cons_succ]
  refine wpAnyL_take 1 (oi := { dst := some 39, op := Go.Op.load 5 (Go.Operand.tmp 38), type := 5, pos := "resv.go:85", after := #[{ on := 0, ground := Go.Ground.data }], guard := none }) (v := ?_) rfl (by kernel_rfl) (by kernel_rfl) (by kernel_rfl) (by kernel_rfl) (fun _ _ _ h => h) (Or.inl ⟨by rfl, ?_⟩) (by assumption) ?_
  rotate_left
  · (intro w hSw; (try dsimp only at hSw); go_split_ands; go_simp; try (with_reducible rfl))
  simp only [Act.put, List.setIfInBounds_toArray, List.set_cons_zero, List.set_cons_succ]
  refine wpAnyL_take 2 (oi := { dst := some 40, op := Go.Op.move (Go.Operand.tmp 2), type := 3, pos := "resv.go:85", after := #[], guard := none }) (v := ?_) rfl (by kernel_rfl) (by kernel_rfl) (by kernel_rfl) (by kernel_rfl) (fun _ _ _ h => h) (Or.inl ⟨by rfl, ?_⟩) (by assumption) ?_
  rotate_left
  · (intro w hSw; (try dsimp only at hSw); go_split_ands; go_simp; try (with_reducible rfl))
  simp only [Act.put, List.setIfInBounds_toArray, List.set_cons_zero, List.set_cons_succ]
  refine wpAnyL_ready (rs := [3]) (by kernel_rfl) (by simp) ?_
  refine AllReadyL.cons (o := { dst := some 41, op := Go.Op.call { callee := Go.Callee.value (Go.Operand.func 32), args := #[Go.Operand.tmp 40], argTypes := #[3] }, type := 5, pos := "resv.go:85", after := #[{ on := 2, ground := Go.Ground.data }], guard := none }) rfl (fun K hK => ?_) ?_
  · go_simp
    go_at_call 32
    refine (HBQ.out _).mono ?_
    rintro e w11 ⟨rfl, rfl⟩
    refine hK.out _ _ (.inr (by (exact ⟨b3, fz⟩))) (fun hS3 => ?_)
    replace hS3 := hS3.resolve_left (by decide)
    try simp only [Act.put, List.setIfInBounds_toArray, List.set_cons_zero, List.set_cons_succ]
    refine wpAnyL_take 4 (oi := { dst := some 42, op := Go.Op.binOp Go.BinOp.andNot 5 (Go.Operand.tmp 39) (Go.Operand.tmp 41) 5, type := 5, pos := "resv.go:85", after := #[{ on := 1, ground := Go.Ground.data }, { on := 3, ground := Go.Ground.data }], guard := none }) (v := ?_) rfl (by kernel_rfl) (by kernel_rfl) (by kernel_rfl) (by kernel_rfl) (fun _ _ _ h => h) (Or.inl ⟨by rfl, ?_⟩) (by assumption) ?_
    rotate_left
    · (intro w hSw; (try dsimp only at hSw); go_split_ands; go_simp; try (with_reducible rfl))
    simp only [Act.put, List.setIfInBounds_toArray, List.set_cons_zero, List.set_cons_succ]
    refine wpAnyL_take 5 (oi := { dst := some 43, op := Go.Op.fieldAddr 31 (Go.Operand.tmp 8) 3, type := 0, pos := "resv.go:85", after := #[{ on := 0, ground := Go.Ground.phase }, { on := 1, ground := Go.Ground.phase }, { on := 2, ground := Go.Ground.phase }, { on := 3, ground := Go.Ground.phase }, { on := 4, ground := Go.Ground.phase }], guard := none }) (v := ?_) rfl (by kernel_rfl) (by kernel_rfl) (by kernel_rfl) (by kernel_rfl) (fun _ _ _ h => h) (Or.inl ⟨by rfl, ?_⟩) (by assumption) ?_
    rotate_left
    · (intro w hSw; (try dsimp only at hSw); go_split_ands; go_simp; try (with_reducible rfl))
    simp only [Act.put, List.setIfInBounds_toArray, List.set_cons_zero, List.set_cons_succ]
    refine wpAnyL_ready (rs := [6]) (by kernel_rfl) (by simp) ?_
    refine AllReadyL.cons (o := { dst := none, op := Go.Op.store 5 (Go.Operand.tmp 43) (Go.Operand.tmp 42), type := 0, pos := "resv.go:85", after := #[{ on := 5, ground := Go.Ground.data }, { on := 4, ground := Go.Ground.data }, { on := 3, ground := Go.Ground.chain }, { on := 0, ground := Go.Ground.phase }, { on := 1, ground := Go.Ground.phase }, { on := 2, ground := Go.Ground.phase }, { on := 3, ground := Go.Ground.phase }, { on := 4, ground := Go.Ground.phase }], guard := none }) rfl (fun K hK => ?_) ?_
    · go_simp
      refine hK.out _ _ (.inl rfl) (fun _ => ?_)
      try simp only [Act.put, List.setIfInBounds_toArray, List.set_cons_zero, List.set_cons_succ]
      refine wpAnyL_done (by kernel_rfl) ?_ _
      refine NoPanic.normal ?_
      go_wp2_with (go_at_call 33; go_loud (refine (touch_any B p k _ L ⟨x.s, x.p, x.f, m⟩ hk _ (by have := KB.out.size; omega) HRB.out).mono ?_; rintro e wd ⟨rfl, vd, hRd, hkd, hvd⟩; have HRD := Lib.hid hRd; have HKD := Lib.hid hkd; have HVD := Lib.hid hvd; clear hRd hkd hvd; obtain ⟨b0, b1, b2, b3⟩ := cells4 ((HKD.out.block nb (block_lt HM.out) hnbp).trans HM.out)))
      go_ret
      have hsb := KB.out.size
      first | exact ⟨rfl, _, HRD.out, (KB.out.mono (fun _ _ h => h.elim)).trans HKD.out, fun z hz => by have := HVD.out z hz; omega⟩ | exact ⟨_, rfl, HRD.out, (KB.out.mono (fun _ _ h => h.elim)).trans HKD.out, fun z hz => by have := HVD.out z hz; omega⟩
    exact AllReadyL.nil
  exact AllReadyL.nil

end Go.Proofs.Ytmbgebmhdofdaaa
