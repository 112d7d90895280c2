/- Reservations: Fill, Clear. -/
import Derived.Test.YtmbgebmhdofdaaaF
set_option linter.unusedVariables false
set_option linter.unusedSimpArgs false
namespace Go.Proofs.Ytmbgebmhdofdaaa
open Go.RowKit Go.Own

set_option maxHeartbeats 1000000 in
theorem fill_dup (B p : Nat) (v : Value) (x : Rv) (y : Nat) (hy : y < 1024) (hx : x.p = ((y / 8 * 8 : Nat) : Int)) (hf : 0 ≤ x.f ∧ x.f < 100000) (hb : x.b < 256) (w : World) (hB : B ≤ w.heap.size) (hR : RepR w B p v [x]) (hd : x.b &&& 2 ^ (y % 8) ≠ 0) :
    Calls Try.prog 14 #[.pointer (some ⟨p, 0, none⟩), .int .i64 x.s, .int .i64 y] w fun e w' => e = .returned (.tuple #[.int .i64 0, .int .i64 7]) ∧ Keep (fun _ => False) w w' := by
  obtain ⟨g, cap, rfl, hBg, hcap, hgl⟩ := hR.hv.form (by simp)
  have hlen : ([x] : List Rv).length = 1 := rfl
  rw [hlen] at hR
  have hxp : 0 ≤ x.p ∧ x.p < 1024 := by omega
  have HX := Lib.hid hx
  clear hx
  have hbit := pow_lt8 y
  have hand := u8_and_nat x.b (2 ^ (y % 8)) hb hbit
  have htest : (((x.b &&& 2 ^ (y % 8) : Nat) : Int) != 0) = true := by simpa using hd
  have H1 := Lib.hid hd
  clear hd
  obtain ⟨r, hr⟩ : ∃ r, 2 ^ (y % 8) = r := ⟨_, rfl⟩
  have HRr := Lib.hid hr
  rw [hr] at hand htest
  have HBQ : Hid (∀ W, Calls Try.prog 32 #[.int .i64 y] W fun e w' => e = .returned (.int .u8 (r : Int)) ∧ w' = W) := fun W => by rw [← hr]; exact bit_q y hy W
  go_enter Try.func14, Try.ntmps14
  go_wp2_with (go_at_call 31; go_loud (refine (where_one B p _ x y hy HX.out _ hR).mono ?_; rintro e w1 ⟨rfl, hk1⟩; have HR1 := Lib.hid (hR.keep0 hk1); have HK1 := Lib.hid hk1; clear hk1; have hc0 := HR1.out.c0; obtain ⟨c0, c1, c2, c3⟩ := rv_cells (i := 0) HR1.out.hv (by simp); simp only [List.getElem_cons_zero, Nat.zero_mul, Nat.zero_add] at c0 c1 c2 c3))
  go_quiet ((go_at_call 32; exact Calls.quiet_of_same (HBQ.out _)))
  go_wp2
  go_ret2
  exact ⟨rfl, HK1.out.drewN _⟩

set_option maxHeartbeats 1000000 in
theorem clear_no (B p : Nat) (v : Value) (x : Rv) (y : Nat) (hy : y < 1024) (hx : x.p = ((y / 8 * 8 : Nat) : Int)) (hf : 0 ≤ x.f ∧ x.f < 100000) (hb : x.b < 256) (w : World) (hB : B ≤ w.heap.size) (hR : RepR w B p v [x]) (hd : x.b &&& 2 ^ (y % 8) = 0) :
    Calls Try.prog 15 #[.pointer (some ⟨p, 0, none⟩), .int .i64 x.s, .int .i64 y] w fun e w' => e = .returned (.int .i64 6) ∧ Keep (fun _ => False) w w' := by
  obtain ⟨g, cap, rfl, hBg, hcap, hgl⟩ := hR.hv.form (by simp)
  have hlen : ([x] : List Rv).length = 1 := rfl
  rw [hlen] at hR
  have hxp : 0 ≤ x.p ∧ x.p < 1024 := by omega
  have HX := Lib.hid hx
  clear hx
  have hbit := pow_lt8 y
  have hand := u8_and_nat x.b (2 ^ (y % 8)) hb hbit
  have htest : (((x.b &&& 2 ^ (y % 8) : Nat) : Int) == 0) = true := by simpa using hd
  have H1 := Lib.hid hd
  clear hd
  obtain ⟨r, hr⟩ : ∃ r, 2 ^ (y % 8) = r := ⟨_, rfl⟩
  have HRr := Lib.hid hr
  rw [hr] at hand htest
  have HBQ : Hid (∀ W, Calls Try.prog 32 #[.int .i64 y] W fun e w' => e = .returned (.int .u8 (r : Int)) ∧ w' = W) := fun W => by rw [← hr]; exact bit_q y hy W
  go_enter Try.func15, Try.ntmps15
  go_wp2_with (go_at_call 31; go_loud (refine (where_one B p _ x y hy HX.out _ hR).mono ?_; rintro e w1 ⟨rfl, hk1⟩; have HR1 := Lib.hid (hR.keep0 hk1); have HK1 := Lib.hid hk1; clear hk1; have hc0 := HR1.out.c0; obtain ⟨c0, c1, c2, c3⟩ := rv_cells (i := 0) HR1.out.hv (by simp); simp only [List.getElem_cons_zero, Nat.zero_mul, Nat.zero_add] at c0 c1 c2 c3))
  go_quiet ((go_at_call 32; exact Calls.quiet_of_same (HBQ.out _)))
  go_wp2
  go_ret
  exact ⟨rfl, HK1.out.drewN _⟩

set_option maxHeartbeats 4000000 in
theorem fill_new (B p : Nat) (v : Value) (x : Rv) (y : Nat) (hy : y < 1024) (hx : x.p = ((y / 8 * 8 : Nat) : Int)) (hf : 0 ≤ x.f ∧ x.f < 100000) (hb : x.b < 256) (w : World) (hB : B ≤ w.heap.size) (hR : RepR w B p v [x]) (hd : x.b &&& 2 ^ (y % 8) = 0) :
    Calls Try.prog 14 #[.pointer (some ⟨p, 0, none⟩), .int .i64 x.s, .int .i64 y] w fun e w' => ∃ v', e = .returned (.tuple #[.int .i64 (x.f + y - x.p), .int .i64 0]) ∧ RepR w' B p v' [⟨x.s, x.p, x.f, x.b ||| 2 ^ (y % 8)⟩] ∧ Keep (fun z => z = p) w w' ∧ (∀ z, v'.ownBlock = some z → w.heap.size ≤ z) := by
  obtain ⟨g, cap, rfl, hBg, hcap, hgl⟩ := hR.hv.form (by simp)
  have hlen : ([x] : List Rv).length = 1 := rfl
  rw [hlen] at hR
  have hxp : 0 ≤ x.p ∧ x.p < 1024 := by omega
  have HX := Lib.hid hx
  clear hx
  have hbit := pow_lt8 y
  have hand := u8_and_nat x.b (2 ^ (y % 8)) hb hbit
  have htest : (((x.b &&& 2 ^ (y % 8) : Nat) : Int) != 0) = false := by simpa using hd
  have H1 := Lib.hid hd
  clear hd
  have hor := u8_or_nat x.b (2 ^ (y % 8)) hb hbit
  obtain ⟨r, hr⟩ : ∃ r, 2 ^ (y % 8) = r := ⟨_, rfl⟩
  have HRr := Lib.hid hr
  rw [hr] at hand htest hor ⊢
  have HBQ : Hid (∀ W, Calls Try.prog 32 #[.int .i64 y] W fun e w' => e = .returned (.int .u8 (r : Int)) ∧ w' = W) := fun W => by rw [← hr]; exact bit_q y hy W
  obtain ⟨m, hm⟩ : ∃ m, x.b ||| r = m := ⟨_, rfl⟩
  rw [hm] at hor ⊢
  clear hm hr
  go_enter Try.func14, Try.ntmps14
  go_wp2_with (go_at_call 31; go_loud (refine (where_one B p _ x y hy HX.out _ hR).mono ?_; rintro e w1 ⟨rfl, hk1⟩; have HR1 := Lib.hid (hR.keep0 hk1); have HK1 := Lib.hid hk1; clear hk1; have hc0 := HR1.out.c0; obtain ⟨c0, c1, c2, c3⟩ := rv_cells (i := 0) HR1.out.hv (by simp); simp only [List.getElem_cons_zero, Nat.zero_mul, Nat.zero_add] at c0 c1 c2 c3))
  go_quiet ((go_at_call 32; exact Calls.quiet_of_same (HBQ.out _)))
  generalize hw9 : World.drewN w1 nq = w9
  have HK9 : Hid (Keep (fun _ => False) w w9) := by rw [← hw9]; exact (by (repeat (first | exact HK1.out | exact Keep.refl _ _ | refine Keep.drew ?_ | refine Keep.drewN ?_ _ | refine Keep.alloc ?_ _ | refine Keep.setNew ?_ (by omega) _)); done)
  clear hw9 hc0 c0 c1 c2 c3
  have HR9 := Lib.hid (hR.keep0 HK9.out)
  have hc0 := HR9.out.c0
  have hs9 := HK9.out.size
  obtain ⟨c0, c1, c2, c3⟩ := rv_cells (i := 0) HR9.out.hv (by simp)
  simp only [List.getElem_cons_zero, Nat.zero_mul, Nat.zero_add] at c0 c1 c2 c3
  go_wp2
  have HN := Lib.hid (heap_alloc_new w9 (.cells #[.int .i64 x.s, .int .i64 x.p, .int .i64 x.f, .int .u8 x.b] 31))
  have HRA := Lib.hid (HR9.out.keep0 (w' := w9.alloc (.cells #[.int .i64 x.s, .int .i64 x.p, .int .i64 x.f, .int .u8 x.b] 31)) (by (repeat (first | exact Keep.refl _ _ | exact Keep.refl _ _ | refine Keep.drew ?_ | refine Keep.drewN ?_ _ | refine Keep.alloc ?_ _ | refine Keep.setNew ?_ (by omega) _)); done))
  have KA : Hid (Keep (fun _ => False) w (w9.alloc (.cells #[.int .i64 x.s, .int .i64 x.p, .int .i64 x.f, .int .u8 x.b] 31))) := HK9.out.alloc _
  clear hc0 c0 c1 c2 c3
  have hnb0 : w.heap.size ≤ w9.heap.size := hs9
  obtain ⟨nb, hnb⟩ : ∃ z, w9.heap.size = z := ⟨_, rfl⟩
  obtain ⟨wa, hwa⟩ : ∃ z, w9.alloc (.cells #[.int .i64 x.s, .int .i64 x.p, .int .i64 x.f, .int .u8 x.b] 31) = z := ⟨_, rfl⟩
  rw [hwa] at HN HRA KA ⊢
  rw [hnb] at HN hnb0 ⊢
  clear hwa HR9 HR1
  have hnbp : nb ≠ p := by have := block_lt hR.hp; omega
  have hgn : g ≠ nb := by have := (hR.hv.lt g rfl).2; omega
  obtain ⟨b0, b1, b2, b3⟩ := cells4 HN.out
  have fz : wa.frozen? ⟨nb, 3, none⟩ = false := frozen_block HN.out
  have KS : Hid (Keep (fun z => z = nb) wa (wa.drew.setCell ⟨nb, 3, none⟩ (.int .u8 m))) := ((Keep.refl (fun z => z = nb) wa).drew).setCell (p := ⟨nb, 3, none⟩) (fun _ => rfl) _
  have HM : Hid ((wa.drew.setCell ⟨nb, 3, none⟩ (.int .u8 m)).heap[nb]? = some (.cells #[.int .i64 x.s, .int .i64 x.p, .int .i64 x.f, .int .u8 m] 31 (0, 0))) := by
    unfold Hid
    rw [heap_setCell_eq (w := wa.drew) HN.out]; rfl
  have HRB := Lib.hid (HRA.out.keep KS.out (Ne.symm hnbp) (fun z hz e => by simp [Value.ownBlock] at hz; omega))
  have KB : Hid (Keep (fun _ => False) w (wa.drew.setCell ⟨nb, 3, none⟩ (.int .u8 m))) := (KA.out.drew).setNew (by omega) _
  refine wp_region_noPanic ?_
  refine wp_region_L (fun w' => w'.cell? ⟨nb, 3, none⟩ = some (.int .u8 x.b) ∧ w'.frozen? ⟨nb, 3, none⟩ = false) 6 (by kernel_rfl) (by (exact ⟨b3, fz⟩)) (fun hS0 => ?_)
  refine wpAnyL_take 0 (oi := { dst := some 39, op := Go.Op.fieldAddr 31 (Go.Operand.tmp 9) 3, type := 0, pos := "resv.go:70", after := #[], guard := none }) (v := ?_) rfl (by kernel_rfl) (by kernel_rfl) (by kernel_rfl) (by kernel_rfl) (fun _ _ _ h => h) (Or.inl ⟨by rfl, ?_⟩) (by assumption) ?_
  rotate_left
  · (intro w hSw; (try dsimp only at hSw); go_split_ands; go_simp; try (with_reducible rfl))
  simp only [Act.put, List.setIfInBounds_toArray, List.set_cons_zero, List.set_cons_succ]
  refine wpAnyL_take 1 (oi := { dst := some 40, op := Go.Op.load 5 (Go.Operand.tmp 39), type := 5, pos := "resv.go:70", after := #[{ on := 0, ground := Go.Ground.data }], guard := none }) (v := ?_) rfl (by kernel_rfl) (by kernel_rfl) (by kernel_rfl) (by kernel_rfl) (fun _ _ _ h => h) (Or.inl ⟨by rfl, ?_⟩) (by assumption) ?_
  rotate_left
  · (intro w hSw; (try dsimp only at hSw); go_split_ands; go_simp; try (with_reducible rfl))
  simp only [Act.put, List.setIfInBounds_toArray, List.set_cons_zero, List.set_cons_succ]
  refine wpAnyL_take 2 (oi := { dst := some 41, op := Go.Op.move (Go.Operand.tmp 2), type := 3, pos := "resv.go:70", after := #[], guard := none }) (v := ?_) rfl (by kernel_rfl) (by kernel_rfl) (by kernel_rfl) (by kernel_rfl) (fun _ _ _ h => h) (Or.inl ⟨by rfl, ?_⟩) (by assumption) ?_
  rotate_left
  · (intro w hSw; (try dsimp only at hSw); go_split_ands; go_simp; try (with_reducible rfl))
  simp only [Act.put, List.setIfInBounds_toArray, List.set_cons_zero, List.set_cons_succ]
  refine wpAnyL_ready (rs := [3]) (by kernel_rfl) (by simp) ?_
  refine AllReadyL.cons (o := { dst := some 42, op := Go.Op.call { callee := Go.Callee.value (Go.Operand.func 32), args := #[Go.Operand.tmp 41], argTypes := #[3] }, type := 5, pos := "resv.go:70", after := #[{ on := 2, ground := Go.Ground.data }], guard := none }) rfl (fun K hK => ?_) ?_
  · go_simp
    go_at_call 32
    refine (HBQ.out _).mono ?_
    rintro e w11 ⟨rfl, rfl⟩
    refine hK.out _ _ (.inr (by (exact ⟨b3, fz⟩))) (fun hS3 => ?_)
    replace hS3 := hS3.resolve_left (by decide)
    try simp only [Act.put, List.setIfInBounds_toArray, List.set_cons_zero, List.set_cons_succ]
    refine wpAnyL_take 4 (oi := { dst := some 43, op := Go.Op.binOp Go.BinOp.or 5 (Go.Operand.tmp 40) (Go.Operand.tmp 42) 5, type := 5, pos := "resv.go:70", after := #[{ on := 1, ground := Go.Ground.data }, { on := 3, ground := Go.Ground.data }], guard := none }) (v := ?_) rfl (by kernel_rfl) (by kernel_rfl) (by kernel_rfl) (by kernel_rfl) (fun _ _ _ h => h) (Or.inl ⟨by rfl, ?_⟩) (by assumption) ?_
    rotate_left
    · (intro w hSw; (try dsimp only at hSw); go_split_ands; go_simp; try (with_reducible rfl))
    simp only [Act.put, List.setIfInBounds_toArray, List.set_cons_zero, List.set_cons_succ]
    refine wpAnyL_take 5 (oi := { dst := some 44, op := Go.Op.fieldAddr 31 (Go.Operand.tmp 9) 3, type := 0, pos := "resv.go:70", after := #[{ on := 0, ground := Go.Ground.phase }, { on := 1, ground := Go.Ground.phase }, { on := 2, ground := Go.Ground.phase }, { on := 3, ground := Go.Ground.phase }, { on := 4, ground := Go.Ground.phase }], guard := none }) (v := ?_) rfl (by kernel_rfl) (by kernel_rfl) (by kernel_rfl) (by kernel_rfl) (fun _ _ _ h => h) (Or.inl ⟨by rfl, ?_⟩) (by assumption) ?_
    rotate_left
    · (intro w hSw; (try dsimp only at hSw); go_split_ands; go_simp; try (with_reducible rfl))
    simp only [Act.put, List.setIfInBounds_toArray, List.set_cons_zero, List.set_cons_succ]
    refine wpAnyL_ready (rs := [6]) (by kernel_rfl) (by simp) ?_
    refine AllReadyL.cons (o := { dst := none, op := Go.Op.store 5 (Go.Operand.tmp 44) (Go.Operand.tmp 43), type := 0, pos := "resv.go:70", after := #[{ on := 5, ground := Go.Ground.data }, { on := 4, ground := Go.Ground.data }, { on := 3, ground := Go.Ground.chain }, { on := 0, ground := Go.Ground.phase }, { on := 1, ground := Go.Ground.phase }, { on := 2, ground := Go.Ground.phase }, { on := 3, ground := Go.Ground.phase }, { on := 4, ground := Go.Ground.phase }], guard := none }) rfl (fun K hK => ?_) ?_
    · go_simp
      refine hK.out _ _ (.inl rfl) (fun _ => ?_)
      try simp only [Act.put, List.setIfInBounds_toArray, List.set_cons_zero, List.set_cons_succ]
      refine wpAnyL_done (by kernel_rfl) ?_ _
      refine NoPanic.normal ?_
      go_wp2_with (go_at_call 33; go_loud (refine (touch_one B p _ x ⟨x.s, x.p, x.f, m⟩ _ (by have := KB.out.size; omega) HRB.out).mono ?_; rintro e wd ⟨rfl, vd, hRd, hkd, hvd⟩; have HRD := Lib.hid hRd; have HKD := Lib.hid hkd; have HVD := Lib.hid hvd; clear hRd hkd hvd; obtain ⟨b0, b1, b2, b3⟩ := cells4 ((HKD.out.block nb (block_lt HM.out) hnbp).trans HM.out)))
      go_ret2
      have hsb := KB.out.size
      first | exact ⟨rfl, _, HRD.out, (KB.out.mono (fun _ _ h => h.elim)).trans HKD.out, fun z hz => by have := HVD.out z hz; omega⟩ | exact ⟨_, rfl, HRD.out, (KB.out.mono (fun _ _ h => h.elim)).trans HKD.out, fun z hz => by have := HVD.out z hz; omega⟩
    exact AllReadyL.nil
  exact AllReadyL.nil

set_option maxHeartbeats 4000000 in
theorem clear_yes (B p : Nat) (v : Value) (x : Rv) (y : Nat) (hy : y < 1024) (hx : x.p = ((y / 8 * 8 : Nat) : Int)) (hf : 0 ≤ x.f ∧ x.f < 100000) (hb : x.b < 256) (w : World) (hB : B ≤ w.heap.size) (hR : RepR w B p v [x]) (hd : x.b &&& 2 ^ (y % 8) ≠ 0) :
    Calls Try.prog 15 #[.pointer (some ⟨p, 0, none⟩), .int .i64 x.s, .int .i64 y] w fun e w' => ∃ v', e = .returned (.int .i64 0) ∧ RepR w' B p v' [⟨x.s, x.p, x.f, x.b &&& (255 - 2 ^ (y % 8))⟩] ∧ Keep (fun z => z = p) w w' ∧ (∀ z, v'.ownBlock = some z → w.heap.size ≤ z) := by
  obtain ⟨g, cap, rfl, hBg, hcap, hgl⟩ := hR.hv.form (by simp)
  have hlen : ([x] : List Rv).length = 1 := rfl
  rw [hlen] at hR
  have hxp : 0 ≤ x.p ∧ x.p < 1024 := by omega
  have HX := Lib.hid hx
  clear hx
  have hbit := pow_lt8 y
  have hand := u8_and_nat x.b (2 ^ (y % 8)) hb hbit
  have htest : (((x.b &&& 2 ^ (y % 8) : Nat) : Int) == 0) = false := by simpa using hd
  have H1 := Lib.hid hd
  clear hd
  have hor := u8_andNot_nat x.b (2 ^ (y % 8)) hb hbit
  obtain ⟨r, hr⟩ : ∃ r, 2 ^ (y % 8) = r := ⟨_, rfl⟩
  have HRr := Lib.hid hr
  rw [hr] at hand htest hor ⊢
  have HBQ : Hid (∀ W, Calls Try.prog 32 #[.int .i64 y] W fun e w' => e = .returned (.int .u8 (r : Int)) ∧ w' = W) := fun W => by rw [← hr]; exact bit_q y hy W
  obtain ⟨m, hm⟩ : ∃ m, x.b &&& (255 - r) = m := ⟨_, rfl⟩
  rw [hm] at hor ⊢
  clear hm hr
  go_enter Try.func15, Try.ntmps15
  go_wp2_with (go_at_call 31; go_loud (refine (where_one B p _ x y hy HX.out _ hR).mono ?_; rintro e w1 ⟨rfl, hk1⟩; have HR1 := Lib.hid (hR.keep0 hk1); have HK1 := Lib.hid hk1; clear hk1; have hc0 := HR1.out.c0; obtain ⟨c0, c1, c2, c3⟩ := rv_cells (i := 0) HR1.out.hv (by simp); simp only [List.getElem_cons_zero, Nat.zero_mul, Nat.zero_add] at c0 c1 c2 c3))
  go_quiet ((go_at_call 32; exact Calls.quiet_of_same (HBQ.out _)))
  generalize hw9 : World.drewN w1 nq = w9
  have HK9 : Hid (Keep (fun _ => False) w w9) := by rw [← hw9]; exact (by (repeat (first | exact HK1.out | exact Keep.refl _ _ | refine Keep.drew ?_ | refine Keep.drewN ?_ _ | refine Keep.alloc ?_ _ | refine Keep.setNew ?_ (by omega) _)); done)
  clear hw9 hc0 c0 c1 c2 c3
  have HR9 := Lib.hid (hR.keep0 HK9.out)
  have hc0 := HR9.out.c0
  have hs9 := HK9.out.size
  obtain ⟨c0, c1, c2, c3⟩ := rv_cells (i := 0) HR9.out.hv (by simp)
  simp only [List.getElem_cons_zero, Nat.zero_mul, Nat.zero_add] at c0 c1 c2 c3
  go_wp2
  have HN := Lib.hid (heap_alloc_new w9 (.cells #[.int .i64 x.s, .int .i64 x.p, .int .i64 x.f, .int .u8 x.b] 31))
  have HRA := Lib.hid (HR9.out.keep0 (w' := w9.alloc (.cells #[.int .i64 x.s, .int .i64 x.p, .int .i64 x.f, .int .u8 x.b] 31)) (by (repeat (first | exact Keep.refl _ _ | exact Keep.refl _ _ | refine Keep.drew ?_ | refine Keep.drewN ?_ _ | refine Keep.alloc ?_ _ | refine Keep.setNew ?_ (by omega) _)); done))
  have KA : Hid (Keep (fun _ => False) w (w9.alloc (.cells #[.int .i64 x.s, .int .i64 x.p, .int .i64 x.f, .int .u8 x.b] 31))) := HK9.out.alloc _
  clear hc0 c0 c1 c2 c3
  have hnb0 : w.heap.size ≤ w9.heap.size := hs9
  obtain ⟨nb, hnb⟩ : ∃ z, w9.heap.size = z := ⟨_, rfl⟩
  obtain ⟨wa, hwa⟩ : ∃ z, w9.alloc (.cells #[.int .i64 x.s, .int .i64 x.p, .int .i64 x.f, .int .u8 x.b] 31) = z := ⟨_, rfl⟩
  rw [hwa] at HN HRA KA ⊢
  rw [hnb] at HN hnb0 ⊢
  clear hwa HR9 HR1
  have hnbp : nb ≠ p := by have := block_lt hR.hp; omega
  have hgn : g ≠ nb := by have := (hR.hv.lt g rfl).2; omega
  obtain ⟨b0, b1, b2, b3⟩ := cells4 HN.out
  have fz : wa.frozen? ⟨nb, 3, none⟩ = false := frozen_block HN.out
  have KS : Hid (Keep (fun z => z = nb) wa (wa.drew.setCell ⟨nb, 3, none⟩ (.int .u8 m))) := ((Keep.refl (fun z => z = nb) wa).drew).setCell (p := ⟨nb, 3, none⟩) (fun _ => rfl) _
  have HM : Hid ((wa.drew.setCell ⟨nb, 3, none⟩ (.int .u8 m)).heap[nb]? = some (.cells #[.int .i64 x.s, .int .i64 x.p, .int .i64 x.f, .int .u8 m] 31 (0, 0))) := by
    unfold Hid
    rw [heap_setCell_eq (w := wa.drew) HN.out]; rfl
  have HRB := Lib.hid (HRA.out.keep KS.out (Ne.symm hnbp) (fun z hz e => by simp [Value.ownBlock] at hz; omega))
  have KB : Hid (Keep (fun _ => False) w (wa.drew.setCell ⟨nb, 3, none⟩ (.int .u8 m))) := (KA.out.drew).setNew (by omega) _
  refine wp_region_noPanic ?_
  refine wp_region_L (fun w' => w'.cell? ⟨nb, 3, none⟩ = some (.int .u8 x.b) ∧ w'.frozen? ⟨nb, 3, none⟩ = false) 6 (by kernel_rfl) (by (exact ⟨b3, fz⟩)) (fun hS0 => ?_)
  refine wpAnyL_take 0 (oi := { dst := some 38, op := Go.Op.fieldAddr 31 (Go.Operand.tmp 8) 3, type := 0, pos := "resv.go:85", after := #[], guard := none }) (v := ?_) rfl (by kernel_rfl) (by kernel_rfl) (by kernel_rfl) (by kernel_rfl) (fun _ _ _ h => h) (Or.inl ⟨by rfl, ?_⟩) (by assumption) ?_
  rotate_left
  · (intro w hSw; (try dsimp only at hSw); go_split_ands; go_simp; try (with_reducible rfl))
  simp only [Act.put, List.setIfInBounds_toArray, List.set_cons_zero, List.set_cons_succ]
  refine wpAnyL_take 1 (oi := { dst := some 39, op := Go.Op.load 5 (Go.Operand.tmp 38), type := 5, pos := "resv.go:85", after := #[{ on := 0, ground := Go.Ground.data }], guard := none }) (v := ?_) rfl (by kernel_rfl) (by kernel_rfl) (by kernel_rfl) (by kernel_rfl) (fun _ _ _ h => h) (Or.inl ⟨by rfl, ?_⟩) (by assumption) ?_
  rotate_left
  · (intro w hSw; (try dsimp only at hSw); go_split_ands; go_simp; try (with_reducible rfl))
  simp only [Act.put, List.setIfInBounds_toArray, List.set_cons_zero, List.set_cons_succ]
  refine wpAnyL_take 2 (oi := { dst := some 40, op := Go.Op.move (Go.Operand.tmp 2), type := 3, pos := "resv.go:85", after := #[], guard := none }) (v := ?_) rfl (by kernel_rfl) (by kernel_rfl) (by kernel_rfl) (by kernel_rfl) (fun _ _ _ h => h) (Or.inl ⟨by rfl, ?_⟩) (by assumption) ?_
  rotate_left
  · (intro w hSw; (try dsimp only at hSw); go_split_ands; go_simp; try (with_reducible rfl))
  simp only [Act.put, List.setIfInBounds_toArray, List.set_cons_zero, List.set_cons_succ]
  refine wpAnyL_ready (rs := [3]) (by kernel_rfl) (by simp) ?_
  refine AllReadyL.cons (o := { dst := some 41, op := Go.Op.call { callee := Go.Callee.value (Go.Operand.func 32), args := #[Go.Operand.tmp 40], argTypes := #[3] }, type := 5, pos := "resv.go:85", after := #[{ on := 2, ground := Go.Ground.data }], guard := none }) rfl (fun K hK => ?_) ?_
  · go_simp
    go_at_call 32
    refine (HBQ.out _).mono ?_
    rintro e w11 ⟨rfl, rfl⟩
    refine hK.out _ _ (.inr (by (exact ⟨b3, fz⟩))) (fun hS3 => ?_)
    replace hS3 := hS3.resolve_left (by decide)
    try simp only [Act.put, List.setIfInBounds_toArray, List.set_cons_zero, List.set_cons_succ]
    refine wpAnyL_take 4 (oi := { dst := some 42, op := Go.Op.binOp Go.BinOp.andNot 5 (Go.Operand.tmp 39) (Go.Operand.tmp 41) 5, type := 5, pos := "resv.go:85", after := #[{ on := 1, ground := Go.Ground.data }, { on := 3, ground := Go.Ground.data }], guard := none }) (v := ?_) rfl (by kernel_rfl) (by kernel_rfl) (by kernel_rfl) (by kernel_rfl) (fun _ _ _ h => h) (Or.inl ⟨by rfl, ?_⟩) (by assumption) ?_
    rotate_left
    · (intro w hSw; (try dsimp only at hSw); go_split_ands; go_simp; try (with_reducible rfl))
    simp only [Act.put, List.setIfInBounds_toArray, List.set_cons_zero, List.set_cons_succ]
    refine wpAnyL_take 5 (oi := { dst := some 43, op := Go.Op.fieldAddr 31 (Go.Operand.tmp 8) 3, type := 0, pos := "resv.go:85", after := #[{ on := 0, ground := Go.Ground.phase }, { on := 1, ground := Go.Ground.phase }, { on := 2, ground := Go.Ground.phase }, { on := 3, ground := Go.Ground.phase }, { on := 4, ground := Go.Ground.phase }], guard := none }) (v := ?_) rfl (by kernel_rfl) (by kernel_rfl) (by kernel_rfl) (by kernel_rfl) (fun _ _ _ h => h) (Or.inl ⟨by rfl, ?_⟩) (by assumption) ?_
    rotate_left
    · (intro w hSw; (try dsimp only at hSw); go_split_ands; go_simp; try (with_reducible rfl))
    simp only [Act.put, List.setIfInBounds_toArray, List.set_cons_zero, List.set_cons_succ]
    refine wpAnyL_ready (rs := [6]) (by kernel_rfl) (by simp) ?_
    refine AllReadyL.cons (o := { dst := none, op := Go.Op.store 5 (Go.Operand.tmp 43) (Go.Operand.tmp 42), type := 0, pos := "resv.go:85", after := #[{ on := 5, ground := Go.Ground.data }, { on := 4, ground := Go.Ground.data }, { on := 3, ground := Go.Ground.chain }, { on := 0, ground := Go.Ground.phase }, { on := 1, ground := Go.Ground.phase }, { on := 2, ground := Go.Ground.phase }, { on := 3, ground := Go.Ground.phase }, { on := 4, ground := Go.Ground.phase }], guard := none }) rfl (fun K hK => ?_) ?_
    · go_simp
      refine hK.out _ _ (.inl rfl) (fun _ => ?_)
      try simp only [Act.put, List.setIfInBounds_toArray, List.set_cons_zero, List.set_cons_succ]
      refine wpAnyL_done (by kernel_rfl) ?_ _
      refine NoPanic.normal ?_
      go_wp2_with (go_at_call 33; go_loud (refine (touch_one B p _ x ⟨x.s, x.p, x.f, m⟩ _ (by have := KB.out.size; omega) HRB.out).mono ?_; rintro e wd ⟨rfl, vd, hRd, hkd, hvd⟩; have HRD := Lib.hid hRd; have HKD := Lib.hid hkd; have HVD := Lib.hid hvd; clear hRd hkd hvd; obtain ⟨b0, b1, b2, b3⟩ := cells4 ((HKD.out.block nb (block_lt HM.out) hnbp).trans HM.out)))
      go_ret
      have hsb := KB.out.size
      first | exact ⟨rfl, _, HRD.out, (KB.out.mono (fun _ _ h => h.elim)).trans HKD.out, fun z hz => by have := HVD.out z hz; omega⟩ | exact ⟨_, rfl, HRD.out, (KB.out.mono (fun _ _ h => h.elim)).trans HKD.out, fun z hz => by have := HVD.out z hz; omega⟩
    exact AllReadyL.nil
  exact AllReadyL.nil

end Go.Proofs.Ytmbgebmhdofdaaa
