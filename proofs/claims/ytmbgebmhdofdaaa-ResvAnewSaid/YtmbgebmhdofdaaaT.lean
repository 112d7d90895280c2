/- Reservations: Break, Find, Oldest, in any list. -/
import Derived.Test.YtmbgebmhdofdaaaR
set_option linter.unusedVariables false
set_option linter.unusedSimpArgs false
namespace Go.Proofs.Ytmbgebmhdofdaaa
open Go.RowKit Go.Own

set_option maxHeartbeats 1000000 in
theorem breakL_none (B p : Nat) (v : Value) (L : List Rv) (s y : Int) (hy : i64R y) (hw : whI L s (y / 8 * 8) = -1) (w : World) (hR : RepR w B p v L) :
    Calls Try.prog 16 #[.pointer (some ⟨p, 0, none⟩), .int .i64 s, .int .i64 y] w fun e w' => e = .returned (.tuple #[.slice none 0 0, .int .i64 6]) ∧ Keep (fun _ => False) w w' := by
  have hl := hR.hl
  have HWI : Hid (Calls Try.prog 31 #[.pointer (some ⟨p, 0, none⟩), .int .i64 s, .int .i64 y] w fun e w' => e = .returned (.int .i64 (-1)) ∧ Keep (fun _ => False) w w') := by
    have := where_any B p _ L s y hy hl w hR
    rw [hw] at this; exact this
  clear hw
  go_enter Try.func16, Try.ntmps16
  go_wp2_with (go_at_call 31; refine HWI.out.mono ?_; rintro e w1 ⟨rfl, hk1⟩)
  go_ret2
  exact ⟨rfl, hk1⟩

set_option maxRecDepth 100000 in
set_option maxHeartbeats 4000000 in
theorem breakL_yes (B p k : Nat) (v : Value) (L : List Rv) (x : Rv) (s y : Int) (hy : i64R y) (hw : whI L s (y / 8 * 8) = k) (hk : k < L.length) (he : L[k] = x) (hf : 0 ≤ x.f ∧ x.f < 100000) (hb : x.b < 256) (w : World) (hB : B ≤ w.heap.size) (hR : RepR w B p v L) :
    Calls Try.prog 16 #[.pointer (some ⟨p, 0, none⟩), .int .i64 s, .int .i64 y] w fun e w' => ∃ v' u, e = .returned (.tuple #[u, .int .i64 0]) ∧ RepR w' B p v' (rmv L k) ∧ OwnL inE w' w.heap.size 3 u (opN x.f x.b 8) ∧ Keep (fun z => z = p) w w' ∧ (∀ z, v'.ownBlock = some z → w.heap.size ≤ z) := by
  have hl := hR.hl
  obtain ⟨g, cap, rfl, hBg, hcap, hgl⟩ := hR.hv.form (by intro e; subst e; simp at hk)
  have HWI : Hid (Calls Try.prog 31 #[.pointer (some ⟨p, 0, none⟩), .int .i64 s, .int .i64 y] w fun e w' => e = .returned (.int .i64 k) ∧ Keep (fun _ => False) w w') := by
    have := where_any B p _ L s y hy hl w hR
    rw [hw] at this; exact this
  have HE := Lib.hid he
  clear hw he
  go_enter Try.func16, Try.ntmps16
  go_wp2_with (first | (go_at_call 31; go_loud (refine HWI.out.mono ?_; rintro e w1 ⟨rfl, hk1⟩; have HR1 := Lib.hid (hR.keep0 hk1); have HK1 := Lib.hid hk1; clear hk1; have hc0 := HR1.out.c0; obtain ⟨c0, c1, c2, c3⟩ := rv_cells HR1.out.hv hk; rw [HE.out] at c0 c1 c2 c3))
                     | (go_at_call 29; go_loud (refine (open_any x hf hb _).mono ?_; rintro e w3 ⟨u3, rfl, hO3, hk3⟩; have HO3 := Lib.hid hO3; have HR3 := Lib.hid (HR1.out.keep0 hk3); have HK3 := Lib.hid (HK1.out.trans hk3); clear hO3 hk3)))
  clear hc0 c0 c1 c2 c3
  have hs1 := HK1.out.size
  have hs3 := HK3.out.size
  have hc0 := HR3.out.c0
  have fz : w3.frozen? ⟨p, 0, none⟩ = false := frozen_block HR3.out.hp
  obtain ⟨vlo, hlo, hrlo⟩ := sl_lo et28 HR3.out.hv (Nat.le_of_lt hk)
  obtain ⟨vhi, hhi, hrhi⟩ := sl_hi et28 HR3.out.hv (i := k + 1) (by omega) (↑k + 1) (by simp)
  have RLO := Lib.hid hrlo
  have RHI := Lib.hid hrhi
  clear hrlo hrhi
  have hw1 : IntKind.i64.wrap (↑k + 1) = ↑k + 1 := IntWalk.i64_in _ (by omega)
  have k0 : (0 : Int) ≤ k := by omega
  refine wp_region_noPanic ?_
  refine wp_region_L (fun w' => w'.cell? ⟨p, 0, none⟩ = some (.slice (some ⟨g, 0, none⟩) L.length cap) ∧ w'.frozen? ⟨p, 0, none⟩ = false) 19 (by kernel_rfl) (by (refine sM ?_ hc0 fz; (repeat (first | exact HK42.out | exact HK34.out | exact Keep.refl _ _ | refine Keep.drew ?_ | refine Keep.drewN ?_ _ | refine Keep.alloc ?_ _ | refine Keep.setNew ?_ (by omega) _)); done)) (fun hS0 => ?_)
  refine wpAnyL_take 0 (oi := { dst := some 26, op := Go.Op.move (Go.Operand.tmp 0), type := 23, pos := "resv.go:137", after := #[], guard := none }) (v := ?_) rfl (by kernel_rfl) (by kernel_rfl) (by kernel_rfl) (by kernel_rfl) (fun _ _ _ h => h) (Or.inl ⟨by rfl, ?_⟩) (by assumption) ?_
  rotate_left
  · (intro w hSw; (try dsimp only at hSw); go_split_ands; go_simp; try (with_reducible rfl))
  simp only [Act.put, List.setIfInBounds_toArray, List.set_cons_zero, List.set_cons_succ]
  refine wpAnyL_take 2 (oi := { dst := some 28, op := Go.Op.move (Go.Operand.tmp 0), type := 23, pos := "resv.go:137", after := #[], guard := none }) (v := ?_) rfl (by kernel_rfl) (by kernel_rfl) (by kernel_rfl) (by kernel_rfl) (fun _ _ _ h => h) (Or.inl ⟨by rfl, ?_⟩) (by assumption) ?_
  rotate_left
  · (intro w hSw; (try dsimp only at hSw); go_split_ands; go_simp; try (with_reducible rfl))
  simp only [Act.put, List.setIfInBounds_toArray, List.set_cons_zero, List.set_cons_succ]
  refine wpAnyL_take 3 (oi := { dst := some 29, op := Go.Op.nilCheck (Go.Operand.tmp 28), type := 0, pos := "resv.go:137", after := #[{ on := 2, ground := Go.Ground.data }], guard := none }) (v := ?_) rfl (by kernel_rfl) (by kernel_rfl) (by kernel_rfl) (by kernel_rfl) (fun _ _ _ h => h) (Or.inl ⟨by rfl, ?_⟩) (by assumption) ?_
  rotate_left
  · (intro w hSw; (try dsimp only at hSw); go_split_ands; go_simp; try (with_reducible rfl))
  simp only [Act.put, List.setIfInBounds_toArray, List.set_cons_zero, List.set_cons_succ]
  refine wpAnyL_take 4 (oi := { dst := some 30, op := Go.Op.fieldAddr 64 (Go.Operand.tmp 29) 0, type := 0, pos := "resv.go:137", after := #[{ on := 3, ground := Go.Ground.data }], guard := none }) (v := ?_) rfl (by kernel_rfl) (by kernel_rfl) (by kernel_rfl) (by kernel_rfl) (fun _ _ _ h => h) (Or.inl ⟨by rfl, ?_⟩) (by assumption) ?_
  rotate_left
  · (intro w hSw; (try dsimp only at hSw); go_split_ands; go_simp; try (with_reducible rfl))
  simp only [Act.put, List.setIfInBounds_toArray, List.set_cons_zero, List.set_cons_succ]
  refine wpAnyL_take 5 (oi := { dst := some 31, op := Go.Op.load 28 (Go.Operand.tmp 30), type := 28, pos := "resv.go:137", after := #[{ on := 4, ground := Go.Ground.data }], guard := none }) (v := ?_) rfl (by kernel_rfl) (by kernel_rfl) (by kernel_rfl) (by kernel_rfl) (fun _ _ _ h => h) (Or.inl ⟨by rfl, ?_⟩) (by assumption) ?_
  rotate_left
  · (intro w hSw; (try dsimp only at hSw); go_split_ands; go_simp; try (with_reducible rfl))
  simp only [Act.put, List.setIfInBounds_toArray, List.set_cons_zero, List.set_cons_succ]
  refine wpAnyL_take 6 (oi := { dst := some 32, op := Go.Op.move (Go.Operand.tmp 8), type := 3, pos := "resv.go:137", after := #[], guard := none }) (v := ?_) rfl (by kernel_rfl) (by kernel_rfl) (by kernel_rfl) (by kernel_rfl) (fun _ _ _ h => h) (Or.inl ⟨by rfl, ?_⟩) (by assumption) ?_
  rotate_left
  · (intro w hSw; (try dsimp only at hSw); go_split_ands; go_simp; try (with_reducible rfl))
  simp only [Act.put, List.setIfInBounds_toArray, List.set_cons_zero, List.set_cons_succ]
  refine wpAnyL_take 7 (oi := { dst := some 33, op := Go.Op.slice 28 (Go.Operand.tmp 31) none (some (Go.Operand.tmp 32)) none, type := 28, pos := "resv.go:137", after := #[{ on := 5, ground := Go.Ground.data }, { on := 6, ground := Go.Ground.data }], guard := none }) (v := ?_) rfl (by kernel_rfl) (by kernel_rfl) (by kernel_rfl) (by kernel_rfl) (fun _ _ _ h => h) (Or.inl ⟨by rfl, ?_⟩) (by assumption) ?_
  rotate_left
  · (intro w hSw; (try dsimp only at hSw); go_split_ands; go_simp; try (with_reducible rfl))
  simp only [Act.put, List.setIfInBounds_toArray, List.set_cons_zero, List.set_cons_succ]
  refine wpAnyL_take 9 (oi := { dst := some 35, op := Go.Op.move (Go.Operand.tmp 0), type := 23, pos := "resv.go:137", after := #[], guard := none }) (v := ?_) rfl (by kernel_rfl) (by kernel_rfl) (by kernel_rfl) (by kernel_rfl) (fun _ _ _ h => h) (Or.inl ⟨by rfl, ?_⟩) (by assumption) ?_
  rotate_left
  · (intro w hSw; (try dsimp only at hSw); go_split_ands; go_simp; try (with_reducible rfl))
  simp only [Act.put, List.setIfInBounds_toArray, List.set_cons_zero, List.set_cons_succ]
  refine wpAnyL_take 10 (oi := { dst := some 36, op := Go.Op.nilCheck (Go.Operand.tmp 35), type := 0, pos := "resv.go:137", after := #[{ on := 9, ground := Go.Ground.data }], guard := none }) (v := ?_) rfl (by kernel_rfl) (by kernel_rfl) (by kernel_rfl) (by kernel_rfl) (fun _ _ _ h => h) (Or.inl ⟨by rfl, ?_⟩) (by assumption) ?_
  rotate_left
  · (intro w hSw; (try dsimp only at hSw); go_split_ands; go_simp; try (with_reducible rfl))
  simp only [Act.put, List.setIfInBounds_toArray, List.set_cons_zero, List.set_cons_succ]
  refine wpAnyL_take 11 (oi := { dst := some 37, op := Go.Op.fieldAddr 64 (Go.Operand.tmp 36) 0, type := 0, pos := "resv.go:137", after := #[{ on := 10, ground := Go.Ground.data }], guard := none }) (v := ?_) rfl (by kernel_rfl) (by kernel_rfl) (by kernel_rfl) (by kernel_rfl) (fun _ _ _ h => h) (Or.inl ⟨by rfl, ?_⟩) (by assumption) ?_
  rotate_left
  · (intro w hSw; (try dsimp only at hSw); go_split_ands; go_simp; try (with_reducible rfl))
  simp only [Act.put, List.setIfInBounds_toArray, List.set_cons_zero, List.set_cons_succ]
  refine wpAnyL_take 12 (oi := { dst := some 38, op := Go.Op.load 28 (Go.Operand.tmp 37), type := 28, pos := "resv.go:137", after := #[{ on := 11, ground := Go.Ground.data }], guard := none }) (v := ?_) rfl (by kernel_rfl) (by kernel_rfl) (by kernel_rfl) (by kernel_rfl) (fun _ _ _ h => h) (Or.inl ⟨by rfl, ?_⟩) (by assumption) ?_
  rotate_left
  · (intro w hSw; (try dsimp only at hSw); go_split_ands; go_simp; try (with_reducible rfl))
  simp only [Act.put, List.setIfInBounds_toArray, List.set_cons_zero, List.set_cons_succ]
  refine wpAnyL_take 13 (oi := { dst := some 39, op := Go.Op.move (Go.Operand.tmp 8), type := 3, pos := "resv.go:137", after := #[], guard := none }) (v := ?_) rfl (by kernel_rfl) (by kernel_rfl) (by kernel_rfl) (by kernel_rfl) (fun _ _ _ h => h) (Or.inl ⟨by rfl, ?_⟩) (by assumption) ?_
  rotate_left
  · (intro w hSw; (try dsimp only at hSw); go_split_ands; go_simp; try (with_reducible rfl))
  simp only [Act.put, List.setIfInBounds_toArray, List.set_cons_zero, List.set_cons_succ]
  refine wpAnyL_take 14 (oi := { dst := some 40, op := Go.Op.binOp Go.BinOp.add 3 (Go.Operand.tmp 39) (Go.Operand.const (Go.Value.int Go.IntKind.i64 1)) 3, type := 3, pos := "resv.go:137", after := #[{ on := 13, ground := Go.Ground.data }], guard := none }) (v := ?_) rfl (by kernel_rfl) (by kernel_rfl) (by kernel_rfl) (by kernel_rfl) (fun _ _ _ h => h) (Or.inl ⟨by rfl, ?_⟩) (by assumption) ?_
  rotate_left
  · (intro w hSw; (try dsimp only at hSw); go_split_ands; go_simp; try (with_reducible rfl))
  simp only [Act.put, List.setIfInBounds_toArray, List.set_cons_zero, List.set_cons_succ]
  refine wpAnyL_take 15 (oi := { dst := some 41, op := Go.Op.slice 28 (Go.Operand.tmp 38) (some (Go.Operand.tmp 40)) none none, type := 28, pos := "resv.go:137", after := #[{ on := 12, ground := Go.Ground.data }, { on := 14, ground := Go.Ground.data }], guard := none }) (v := ?_) rfl (by kernel_rfl) (by kernel_rfl) (by kernel_rfl) (by kernel_rfl) (fun _ _ _ h => h) (Or.inl ⟨by rfl, ?_⟩) (by assumption) ?_
  rotate_left
  · (intro w hSw; (try dsimp only at hSw); go_split_ands; go_simp; try (with_reducible rfl))
  simp only [Act.put, List.setIfInBounds_toArray, List.set_cons_zero, List.set_cons_succ]
  refine wpAnyL_ready (rs := [1]) (by kernel_rfl) (by simp) ?_
  refine AllReadyL.cons (o := { dst := some 27, op := Go.Op.buildSlice 28 0 #[], type := 28, pos := "resv.go:137", after := #[], guard := none }) rfl (fun K hK => ?_) ?_
  · go_simp
    refine hK.out _ _ (.inr (by (refine sM ?_ hc0 fz; (repeat (first | exact HK42.out | exact HK34.out | exact Keep.refl _ _ | refine Keep.drew ?_ | refine Keep.drewN ?_ _ | refine Keep.alloc ?_ _ | refine Keep.setNew ?_ (by omega) _)); done))) (fun hS14 => ?_)
    replace hS14 := hS14.resolve_left (by decide)
    try simp only [Act.put, List.setIfInBounds_toArray, List.set_cons_zero, List.set_cons_succ]
    refine wpAnyL_ready (rs := [8]) (by kernel_rfl) (by simp) ?_
    refine AllReadyL.cons (o := { dst := some 34, op := Go.Op.call { callee := Go.Callee.builtin Go.Builtin.append, args := #[Go.Operand.tmp 27, Go.Operand.tmp 33], argTypes := #[28, 28] }, type := 28, pos := "resv.go:137", after := #[{ on := 1, ground := Go.Ground.data }, { on := 7, ground := Go.Ground.data }], guard := none }) rfl (fun K hK => ?_) ?_
    · refine step_app et28 (by rfl) (.tmp 27) (.tmp 33) (by rfl) w3.heap.size _ 0 [] (by rfl) (own_empty_at (by simp only [heap_alloc_at, heap_drewN, heap_drew, World.size_alloc, Nat.left_eq_add, Nat.add_eq_left, Nat.reduceEqDiff, reduceIte, Nat.succ_ne_self, Nat.add_left_cancel_iff]) (by simp)) vlo k (rvE.cs (L.take k)) (by rfl) (RLO.out.keep (S := fun _ => False) (by (repeat (first | exact Keep.refl _ _ | exact Keep.refl _ _ | refine Keep.drew ?_ | refine Keep.drewN ?_ _ | refine Keep.alloc ?_ _ | refine Keep.setNew ?_ (by omega) _)); done) (fun _ _ _ _ => id)) (rvE.cs_one_cell _) (by unfold maxLen; omega) (by omega) (by simp <;> omega) ?_
      intro v34 w34 ho34 hg34
      have HK34 : Hid (Keep (fun _ => False) w3 w34) := Keep.grown (by (repeat (first | exact Keep.refl _ _ | exact Keep.refl _ _ | refine Keep.drew ?_ | refine Keep.drewN ?_ _ | refine Keep.alloc ?_ _ | refine Keep.setNew ?_ (by omega) _)); done) hg34 (fun x h1 h2 => by simp [Value.ownBlock] at h1; omega)
      have HO34 := Lib.hid ho34
      clear ho34 hg34
      refine hK.out _ _ (.inr (by (refine sM ?_ hc0 fz; (repeat (first | exact HK42.out | exact HK34.out | exact Keep.refl _ _ | refine Keep.drew ?_ | refine Keep.drewN ?_ _ | refine Keep.alloc ?_ _ | refine Keep.setNew ?_ (by omega) _)); done))) (fun hS15 => ?_)
      replace hS15 := hS15.resolve_left (by decide)
      try simp only [Act.put, List.setIfInBounds_toArray, List.set_cons_zero, List.set_cons_succ]
      refine wpAnyL_ready (rs := [16]) (by kernel_rfl) (by simp) ?_
      refine AllReadyL.cons (o := { dst := some 42, op := Go.Op.call { callee := Go.Callee.builtin Go.Builtin.append, args := #[Go.Operand.tmp 34, Go.Operand.tmp 41], argTypes := #[28, 28] }, type := 28, pos := "resv.go:137", after := #[{ on := 8, ground := Go.Ground.data }, { on := 15, ground := Go.Ground.data }, { on := 8, ground := Go.Ground.chain }], guard := none }) rfl (fun K hK => ?_) ?_
      · refine step_app et28 (by rfl) (.tmp 34) (.tmp 41) (by rfl) w3.heap.size v34 _ _ (by rfl) HO34.out vhi (L.length - (k + 1)) (rvE.cs (L.drop (k + 1))) (by rfl) (RHI.out.keep (S := fun _ => False) (by (repeat (first | exact HK34.out | exact Keep.refl _ _ | refine Keep.drew ?_ | refine Keep.drewN ?_ _ | refine Keep.alloc ?_ _ | refine Keep.setNew ?_ (by omega) _)); done) (fun _ _ _ _ => id)) (rvE.cs_one_cell _) (by unfold maxLen; omega) (by omega) (by have := HK34.out.size; simp <;> omega) ?_
        intro v42 w42 ho42 hg42
        obtain ⟨a42, l42, c42, rfl⟩ := own_slice ho42
        have HK42 : Hid (Keep (fun _ => False) w3 w42) := Keep.grown (by (repeat (first | exact HK34.out | exact Keep.refl _ _ | refine Keep.drew ?_ | refine Keep.drewN ?_ _ | refine Keep.alloc ?_ _ | refine Keep.setNew ?_ (by omega) _)); done) hg42 (fun x h1 h2 => by have := (HO34.out.lt x h1).1; omega)
        have HO42 := Lib.hid ho42
        clear ho42 hg42
        refine hK.out _ _ (.inr (by (refine sM ?_ hc0 fz; (repeat (first | exact HK42.out | exact HK34.out | exact Keep.refl _ _ | refine Keep.drew ?_ | refine Keep.drewN ?_ _ | refine Keep.alloc ?_ _ | refine Keep.setNew ?_ (by omega) _)); done))) (fun hS16 => ?_)
        replace hS16 := hS16.resolve_left (by decide)
        try simp only [Act.put, List.setIfInBounds_toArray, List.set_cons_zero, List.set_cons_succ]
        refine wpAnyL_ready (rs := [17]) (by kernel_rfl) (by simp) ?_
        refine AllReadyL.cons (o := { dst := some 43, op := Go.Op.nilCheck (Go.Operand.tmp 26), type := 0, pos := "resv.go:137", after := #[{ on := 0, ground := Go.Ground.data }, { on := 0, ground := Go.Ground.phase }, { on := 1, ground := Go.Ground.phase }, { on := 2, ground := Go.Ground.phase }, { on := 3, ground := Go.Ground.phase }, { on := 4, ground := Go.Ground.phase }, { on := 5, ground := Go.Ground.phase }, { on := 6, ground := Go.Ground.phase }, { on := 7, ground := Go.Ground.phase }, { on := 8, ground := Go.Ground.phase }, { on := 9, ground := Go.Ground.phase }, { on := 10, ground := Go.Ground.phase }, { on := 11, ground := Go.Ground.phase }, { on := 12, ground := Go.Ground.phase }, { on := 13, ground := Go.Ground.phase }, { on := 14, ground := Go.Ground.phase }, { on := 15, ground := Go.Ground.phase }, { on := 16, ground := Go.Ground.phase }], guard := none }) rfl (fun K hK => ?_) ?_
        · go_simp
          refine hK.out _ _ (.inr (by (refine sM ?_ hc0 fz; (repeat (first | exact HK42.out | exact HK34.out | exact Keep.refl _ _ | refine Keep.drew ?_ | refine Keep.drewN ?_ _ | refine Keep.alloc ?_ _ | refine Keep.setNew ?_ (by omega) _)); done))) (fun hS17 => ?_)
          replace hS17 := hS17.resolve_left (by decide)
          try simp only [Act.put, List.setIfInBounds_toArray, List.set_cons_zero, List.set_cons_succ]
          refine wpAnyL_take 18 (oi := { dst := some 44, op := Go.Op.fieldAddr 64 (Go.Operand.tmp 43) 0, type := 0, pos := "resv.go:137", after := #[{ on := 17, ground := Go.Ground.data }, { on := 0, ground := Go.Ground.phase }, { on := 1, ground := Go.Ground.phase }, { on := 2, ground := Go.Ground.phase }, { on := 3, ground := Go.Ground.phase }, { on := 4, ground := Go.Ground.phase }, { on := 5, ground := Go.Ground.phase }, { on := 6, ground := Go.Ground.phase }, { on := 7, ground := Go.Ground.phase }, { on := 8, ground := Go.Ground.phase }, { on := 9, ground := Go.Ground.phase }, { on := 10, ground := Go.Ground.phase }, { on := 11, ground := Go.Ground.phase }, { on := 12, ground := Go.Ground.phase }, { on := 13, ground := Go.Ground.phase }, { on := 14, ground := Go.Ground.phase }, { on := 15, ground := Go.Ground.phase }, { on := 16, ground := Go.Ground.phase }], guard := none }) (v := ?_) rfl (by kernel_rfl) (by kernel_rfl) (by kernel_rfl) (by kernel_rfl) (fun _ _ _ h => h) (Or.inl ⟨by rfl, ?_⟩) (by assumption) ?_
          rotate_left
          · (intro w hSw; (try dsimp only at hSw); go_split_ands; go_simp; try (with_reducible rfl))
          simp only [Act.put, List.setIfInBounds_toArray, List.set_cons_zero, List.set_cons_succ]
          refine wpAnyL_ready (rs := [19]) (by kernel_rfl) (by simp) ?_
          refine AllReadyL.cons (o := { dst := none, op := Go.Op.store 28 (Go.Operand.tmp 44) (Go.Operand.tmp 42), type := 0, pos := "resv.go:137", after := #[{ on := 18, ground := Go.Ground.data }, { on := 16, ground := Go.Ground.data }, { on := 16, ground := Go.Ground.chain }, { on := 0, ground := Go.Ground.phase }, { on := 1, ground := Go.Ground.phase }, { on := 2, ground := Go.Ground.phase }, { on := 3, ground := Go.Ground.phase }, { on := 4, ground := Go.Ground.phase }, { on := 5, ground := Go.Ground.phase }, { on := 6, ground := Go.Ground.phase }, { on := 7, ground := Go.Ground.phase }, { on := 8, ground := Go.Ground.phase }, { on := 9, ground := Go.Ground.phase }, { on := 10, ground := Go.Ground.phase }, { on := 11, ground := Go.Ground.phase }, { on := 12, ground := Go.Ground.phase }, { on := 13, ground := Go.Ground.phase }, { on := 14, ground := Go.Ground.phase }, { on := 15, ground := Go.Ground.phase }, { on := 16, ground := Go.Ground.phase }], guard := none }) rfl (fun K hK => ?_) ?_
          · go_simp
            refine hK.out _ _ (.inl rfl) (fun _ => ?_)
            try simp only [Act.put, List.setIfInBounds_toArray, List.set_cons_zero, List.set_cons_succ]
            refine wpAnyL_done (by kernel_rfl) ?_ _
            refine NoPanic.normal ?_
            have hq := put_rmv HR3.out hk (by omega) HK42.out HO42.out
            go_wp2
            go_ret2
            exact ⟨_, u3, rfl, hq.1, (HO3.out.base (C := w.heap.size) (fun z hz => by have := (HO3.out.lt z hz).1; omega)).keep hq.2.1 (fun z hz e => by have := (HO3.out.lt z hz).1; have := block_lt HR1.out.hp; omega), (HK3.out.mono (fun _ _ h => h.elim)).trans hq.2.1, fun z hz => by have := hq.2.2 z hz; omega⟩
          exact AllReadyL.nil
        exact AllReadyL.nil
      exact AllReadyL.nil
    exact AllReadyL.nil
  exact AllReadyL.nil

set_option maxHeartbeats 1000000 in
theorem findL_none (B p : Nat) (v : Value) (L : List Rv) (s y : Int) (hy : i64R y) (hw : whI L s (y / 8 * 8) = -1) (w : World) (hR : RepR w B p v L) :
    Calls Try.prog 23 #[.pointer (some ⟨p, 0, none⟩), .int .i64 s, .int .i64 y] w fun e w' => e = .returned (.tuple #[rvV rv0, .bool false]) ∧ Keep (fun _ => False) w w' := by
  have hl := hR.hl
  have KA : Hid (Keep (fun _ => False) w (w.alloc (.cells #[.int .i64 0, .int .i64 0, .int .i64 0, .int .u8 0] 31))) := (Keep.refl _ _).alloc _
  have HZ := Lib.hid (heap_alloc_new w (.cells #[.int .i64 0, .int .i64 0, .int .i64 0, .int .u8 0] 31))
  have HWI : Hid (Calls Try.prog 31 #[.pointer (some ⟨p, 0, none⟩), .int .i64 s, .int .i64 y] (w.alloc (.cells #[.int .i64 0, .int .i64 0, .int .i64 0, .int .u8 0] 31)) fun e w' => e = .returned (.int .i64 (-1)) ∧ Keep (fun _ => False) (w.alloc (.cells #[.int .i64 0, .int .i64 0, .int .i64 0, .int .u8 0] 31)) w') := by
    have := where_any B p _ L s y hy hl _ (hR.keep0 KA.out)
    rw [hw] at this; exact this
  clear hw
  go_enter Try.func23, Try.ntmps23
  go_wp2_with (go_at_call 31; refine HWI.out.mono ?_; rintro e w1 ⟨rfl, hk1⟩; have HK1 := Lib.hid hk1; have hz := (hk1.block _ (block_lt HZ.out) id).trans HZ.out; obtain ⟨z0, z1, z2, z3⟩ := cells4 hz; have f0 : w1.frozen? ⟨w.heap.size, 0, none⟩ = false := frozen_block hz; have f1 : w1.frozen? ⟨w.heap.size, 1, none⟩ = false := frozen_block hz; have f2 : w1.frozen? ⟨w.heap.size, 2, none⟩ = false := frozen_block hz; have f3 : w1.frozen? ⟨w.heap.size, 3, none⟩ = false := frozen_block hz; clear hz hk1)
  have hlz := block_lt_cell z0
  exact bodyPost_ret (v := .tuple #[rvV rv0, .bool false]) (by simp [results, Try.results23, go_sem, rvV, rv0, z0, z1, z2, z3]) rfl ⟨rfl, (by (repeat (first | exact KA.out.trans HK1.out | exact Keep.refl _ _ | refine Keep.drew ?_ | refine Keep.drewN ?_ _ | refine Keep.alloc ?_ _ | refine Keep.setNew ?_ (by omega) _)); done)⟩

set_option maxHeartbeats 1000000 in
theorem findL_yes (B p k : Nat) (v : Value) (L : List Rv) (x : Rv) (s y : Int) (hy : i64R y) (hw : whI L s (y / 8 * 8) = k) (hk : k < L.length) (he : L[k] = x) (w : World) (hR : RepR w B p v L) :
    Calls Try.prog 23 #[.pointer (some ⟨p, 0, none⟩), .int .i64 s, .int .i64 y] w fun e w' => e = .returned (.tuple #[rvV x, .bool true]) ∧ Keep (fun _ => False) w w' := by
  have hl := hR.hl
  obtain ⟨g, cap, rfl, hBg, hcap, hgl⟩ := hR.hv.form (by intro e; subst e; simp at hk)
  have HE := Lib.hid he
  have KA : Hid (Keep (fun _ => False) w (w.alloc (.cells #[.int .i64 0, .int .i64 0, .int .i64 0, .int .u8 0] 31))) := (Keep.refl _ _).alloc _
  have HZ := Lib.hid (heap_alloc_new w (.cells #[.int .i64 0, .int .i64 0, .int .i64 0, .int .u8 0] 31))
  have HWI : Hid (Calls Try.prog 31 #[.pointer (some ⟨p, 0, none⟩), .int .i64 s, .int .i64 y] (w.alloc (.cells #[.int .i64 0, .int .i64 0, .int .i64 0, .int .u8 0] 31)) fun e w' => e = .returned (.int .i64 k) ∧ Keep (fun _ => False) (w.alloc (.cells #[.int .i64 0, .int .i64 0, .int .i64 0, .int .u8 0] 31)) w') := by
    have := where_any B p _ L s y hy hl _ (hR.keep0 KA.out)
    rw [hw] at this; exact this
  clear hw he
  have k0 : (0 : Int) ≤ k := by omega
  go_enter Try.func23, Try.ntmps23
  go_wp2_with (go_at_call 31; refine HWI.out.mono ?_; rintro e w1 ⟨rfl, hk1⟩; have HK1 := Lib.hid hk1; have HR1 := Lib.hid ((hR.keep0 KA.out).keep0 hk1); have hc0 := HR1.out.c0; obtain ⟨c0, c1, c2, c3⟩ := rv_cells HR1.out.hv hk; rw [HE.out] at c0 c1 c2 c3; have hz := (hk1.block _ (block_lt HZ.out) id).trans HZ.out; obtain ⟨z0, z1, z2, z3⟩ := cells4 hz; have f0 : w1.frozen? ⟨w.heap.size, 0, none⟩ = false := frozen_block hz; have f1 : w1.frozen? ⟨w.heap.size, 1, none⟩ = false := frozen_block hz; have f2 : w1.frozen? ⟨w.heap.size, 2, none⟩ = false := frozen_block hz; have f3 : w1.frozen? ⟨w.heap.size, 3, none⟩ = false := frozen_block hz; clear hz hk1)
  have hlz := block_lt_cell z0
  exact bodyPost_ret (v := .tuple #[rvV x, .bool true]) (by simp [results, Try.results23, go_sem, rvV, z0, z1, z2, z3]) rfl ⟨rfl, (by (repeat (first | exact KA.out.trans HK1.out | exact Keep.refl _ _ | refine Keep.drew ?_ | refine Keep.drewN ?_ _ | refine Keep.alloc ?_ _ | refine Keep.setNew ?_ (by omega) _)); done)⟩

set_option maxHeartbeats 1000000 in
theorem oldestL_none (B p : Nat) (v : Value) (w : World) (hR : RepR w B p v []) :
    Calls Try.prog 17 #[.pointer (some ⟨p, 0, none⟩)] w fun e w' => e = .returned (.tuple #[rvV rv0, .bool false]) ∧ Keep (fun _ => False) w w' := by
  have hc0 := hR.c0
  have hpl := block_lt hR.hp
  obtain ⟨a, c, rfl, -⟩ := hR.hv.slice
  go_enter Try.func17, Try.ntmps17
  go_wp2
  exact bodyPost_ret (v := .tuple #[rvV rv0, .bool false]) (by simp [results, Try.results17, go_sem, rvV, rv0]) rfl ⟨rfl, (by (repeat (first | exact Keep.refl _ _ | exact Keep.refl _ _ | refine Keep.drew ?_ | refine Keep.drewN ?_ _ | refine Keep.alloc ?_ _ | refine Keep.setNew ?_ (by omega) _)); done)⟩
set_option maxHeartbeats 1000000 in
theorem oldestL_yes (B p : Nat) (v : Value) (x : Rv) (L : List Rv) (w : World) (hR : RepR w B p v (x :: L)) :
    Calls Try.prog 17 #[.pointer (some ⟨p, 0, none⟩)] w fun e w' => e = .returned (.tuple #[rvV x, .bool true]) ∧ Keep (fun _ => False) w w' := by
  have hc0 := hR.c0
  have hpl := block_lt hR.hp
  obtain ⟨g, cap, rfl, hBg, hcap, hgl⟩ := hR.hv.form (by simp)
  obtain ⟨c0, c1, c2, c3⟩ := rv_cells (i := 0) hR.hv (by simp)
  simp only [List.getElem_cons_zero, Nat.zero_mul, Nat.zero_add] at c0 c1 c2 c3
  have hlen : (x :: L).length = L.length + 1 := rfl
  rw [hlen] at hc0
  have hl := hR.hl
  rw [hlen] at hl
  clear hlen
  go_enter Try.func17, Try.ntmps17
  go_wp2
  exact bodyPost_ret (v := .tuple #[rvV x, .bool true]) (by simp [results, Try.results17, go_sem, rvV]) rfl ⟨rfl, (by (repeat (first | exact Keep.refl _ _ | exact Keep.refl _ _ | refine Keep.drew ?_ | refine Keep.drewN ?_ _ | refine Keep.alloc ?_ _ | refine Keep.setNew ?_ (by omega) _)); done)⟩

end Go.Proofs.Ytmbgebmhdofdaaa
