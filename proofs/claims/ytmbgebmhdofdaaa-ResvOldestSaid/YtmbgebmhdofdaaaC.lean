/- Reservations: one is touched. -/
import Derived.Test.YtmbgebmhdofdaaaB
set_option linter.unusedVariables false
set_option linter.unusedSimpArgs false
namespace Go.Proofs.Ytmbgebmhdofdaaa
open Go.RowKit Go.Own

theorem sl_one {w : World} {B g cap : Nat} {x : Rv} (h : OwnL rvE w B 31 (.slice (some ⟨g, 0, none⟩) 1 cap) [x]) (hc : 1 ≤ cap) :
    (∀ W, (Instr.slice 28 (.slice (some ⟨g, 0, none⟩) 1 cap) none (some (.int .i64 0)) none).run Try.prog W = .ok (.slice (some ⟨g, 0, none⟩) 0 cap) W) ∧
    ∃ ad : Addr, ∀ W, (Instr.slice 28 (.slice (some ⟨g, 0, none⟩) 1 cap) (some (.int .i64 1)) none none).run Try.prog W = .ok (.slice (some ad) 0 (cap - 1)) W := by
  obtain ⟨e1, e2⟩ := et28.elem
  have hu : Try.prog.underlying 28 = some (.slice (Try.prog.elem 28)) := by rw [e1]; exact et28.ht
  refine ⟨fun W => ?_, if cap = 1 then ⟨g, 0, none⟩ else (⟨g, 0, none⟩ : Addr).add (1 * 4), fun W => ?_⟩
  · rw [run_slice_h W 28 _ _ _ hu .i64 _ (by omega) (by omega), e1, e2]
    simp only [sliced, Result.andThen]
    split <;> simp [Addr.add]
  · rw [run_slice_l W 28 _ _ _ hu .i64 _ (by omega) (by omega), e1, e2]
    simp only [sliced, Result.andThen]
    split <;> simp_all

theorem sT {w W : World} {p b : Nat} {v y0 y1 y2 y3 : Value} (h : Keep (fun _ => False) w W) (h2 : w.cell? ⟨p, 0, none⟩ = some v) (h3 : w.frozen? ⟨p, 0, none⟩ = false)
    (hy : w.cell? ⟨b, 0, none⟩ = some y0 ∧ w.cell? ⟨b, 1, none⟩ = some y1 ∧ w.cell? ⟨b, 2, none⟩ = some y2 ∧ w.cell? ⟨b, 3, none⟩ = some y3) :
    W.cell? ⟨p, 0, none⟩ = some v ∧ W.frozen? ⟨p, 0, none⟩ = false ∧ W.cell? ⟨b, 0, none⟩ = some y0 ∧ W.cell? ⟨b, 1, none⟩ = some y1 ∧ W.cell? ⟨b, 2, none⟩ = some y2 ∧ W.cell? ⟨b, 3, none⟩ = some y3 := by
  have f : ∀ {b i : Nat} {x : Value}, w.cell? ⟨b, i, none⟩ = some x → W.cell? ⟨b, i, none⟩ = some x := fun h' => (h.cell (block_lt_cell h') id).trans h'
  exact ⟨f h2, (h.frozen (block_lt_cell h2) id).trans h3, f hy.1, f hy.2.1, f hy.2.2.1, f hy.2.2.2⟩

/-- The object gets another slice, its own. -/
theorem put_close {w w2 : World} {B p n : Nat} {v : Value} {L L' : List Rv} {a2 : Option Addr} {l2 c2 : Nat} {xs : List Value} (hR : RepR w B p v L) (hB : B ≤ w.heap.size) (hl : L'.length ≤ 200)
    (HK2 : Keep (fun _ => False) w w2) (HO2 : w2.ownsRow w.heap.size 31 rvE.k (.slice a2 l2 c2) n xs) (hn : n = L'.length) (hxs : xs = rvE.cs L') :
    RepR (w2.setCell ⟨p, 0, none⟩ (.slice a2 l2 c2)) B p (.slice a2 l2 c2) L' ∧ Keep (fun x => x = p) w (w2.setCell ⟨p, 0, none⟩ (.slice a2 l2 c2)) ∧
      (∀ x, (Value.slice a2 l2 c2).ownBlock = some x → w.heap.size ≤ x) := by
  subst hn; subst hxs
  have hpl := block_lt hR.hp
  have hO : OwnL rvE w2 B 31 (.slice a2 l2 c2) L' := ownsRow_base HO2 (C := B) (fun x hx => by have := (HO2.lt x hx).1; omega)
  have hlt2 := HO2.lt
  have KP := (Keep.refl (fun x => x = p) w2).setCell (p := ⟨p, 0, none⟩) (fun _ => rfl) (.slice a2 l2 c2)
  refine ⟨⟨?_, ?_, ?_, hl⟩, (HK2.mono (T := fun x => x = p) (fun _ _ h => h.elim)).setCell (fun _ => rfl) _, fun x hx => (hlt2 x hx).1⟩
  · rw [heap_setCell_eq ((HK2.block p hpl id).trans hR.hp)]; simp
  · exact hO.keep KP (fun x hx => by have := (hlt2 x hx).1; omega)
  · intro e; have := (hlt2 p e).1; omega

set_option maxHeartbeats 2000000 in
theorem touch_one (B p : Nat) (v : Value) (x y : Rv) (w : World) (hB : B ≤ w.heap.size) (hR : RepR w B p v [x]) :
    Calls Try.prog 33 #[.pointer (some ⟨p, 0, none⟩), .int .i64 0, rvV y] w fun e w' => e = .returned (.tuple #[]) ∧ ∃ v', RepR w' B p v' [y] ∧ Keep (fun z => z = p) w w' ∧ (∀ z, v'.ownBlock = some z → w.heap.size ≤ z) := by
  obtain ⟨g, cap, rfl, hBg, hcap, hgl⟩ := hR.hv.form (by simp)
  have hcap' : 1 ≤ cap := hcap
  have KW : Hid (Keep (fun _ => False) w (w.alloc (.cells #[.int .i64 y.s, .int .i64 y.p, .int .i64 y.f, .int .u8 y.b] 31))) := (Keep.refl _ _).alloc _
  have HY := Lib.hid (cells4 (heap_alloc_new w (.cells #[.int .i64 y.s, .int .i64 y.p, .int .i64 y.f, .int .u8 y.b] 31)))
  have HR1 := Lib.hid (hR.keep0 KW.out)
  unfold rvV
  go_enter Try.func33, Try.ntmps33
  go_wp2
  obtain ⟨nb, hnb⟩ : ∃ z, w.heap.size = z := ⟨_, rfl⟩
  obtain ⟨w1, hw1⟩ : ∃ z, w.alloc (.cells #[.int .i64 y.s, .int .i64 y.p, .int .i64 y.f, .int .u8 y.b] 31) = z := ⟨_, rfl⟩
  rw [hw1] at KW HY HR1 ⊢
  rw [hnb] at HY ⊢
  have hs1 := KW.out.size
  clear hw1
  have hc0 := HR1.out.c0
  have fz : w1.frozen? ⟨p, 0, none⟩ = false := frozen_block HR1.out.hp
  obtain ⟨hlo, ad, hhi⟩ := sl_one HR1.out.hv hcap'
  obtain ⟨y0, y1, y2, y3⟩ := HY.out
  have hw1 : IntKind.i64.wrap 1 = 1 := by decide
  refine wp_region_noPanic ?_
  refine wp_region_L (fun w' => w'.cell? ⟨p, 0, none⟩ = some (.slice (some ⟨g, 0, none⟩) 1 cap) ∧ w'.frozen? ⟨p, 0, none⟩ = false ∧ w'.cell? ⟨nb, 0, none⟩ = some (.int .i64 y.s) ∧ w'.cell? ⟨nb, 1, none⟩ = some (.int .i64 y.p) ∧ w'.cell? ⟨nb, 2, none⟩ = some (.int .i64 y.f) ∧ w'.cell? ⟨nb, 3, none⟩ = some (.int .u8 y.b)) 22 (by kernel_rfl) (by (refine sT ?_ hc0 fz HY.out; (repeat (first | exact HK25.out | exact Keep.refl _ _ | refine Keep.drew ?_ | refine Keep.drewN ?_ _ | refine Keep.alloc ?_ _ | refine Keep.setNew ?_ (by omega) _)); done)) (fun hS0 => ?_)
  refine wpAnyL_take 0 (oi := { dst := some 6, op := Go.Op.move (Go.Operand.tmp 0), type := 23, pos := "resv.go:34", after := #[], guard := none }) (v := ?_) rfl (by kernel_rfl) (by kernel_rfl) (by kernel_rfl) (by kernel_rfl) (fun _ _ _ h => h) (Or.inl ⟨by rfl, ?_⟩) (by assumption) ?_
  rotate_left
  · (intro w hSw; (try dsimp only at hSw); go_split_ands; go_simp; try (with_reducible rfl))
  simp only [Act.put, List.setIfInBounds_toArray, List.set_cons_zero, List.set_cons_succ]
  refine wpAnyL_take 2 (oi := { dst := some 8, op := Go.Op.move (Go.Operand.tmp 0), type := 23, pos := "resv.go:34", after := #[], guard := none }) (v := ?_) rfl (by kernel_rfl) (by kernel_rfl) (by kernel_rfl) (by kernel_rfl) (fun _ _ _ h => h) (Or.inl ⟨by rfl, ?_⟩) (by assumption) ?_
  rotate_left
  · (intro w hSw; (try dsimp only at hSw); go_split_ands; go_simp; try (with_reducible rfl))
  simp only [Act.put, List.setIfInBounds_toArray, List.set_cons_zero, List.set_cons_succ]
  refine wpAnyL_take 3 (oi := { dst := some 9, op := Go.Op.nilCheck (Go.Operand.tmp 8), type := 0, pos := "resv.go:34", after := #[{ on := 2, ground := Go.Ground.data }], guard := none }) (v := ?_) rfl (by kernel_rfl) (by kernel_rfl) (by kernel_rfl) (by kernel_rfl) (fun _ _ _ h => h) (Or.inl ⟨by rfl, ?_⟩) (by assumption) ?_
  rotate_left
  · (intro w hSw; (try dsimp only at hSw); go_split_ands; go_simp; try (with_reducible rfl))
  simp only [Act.put, List.setIfInBounds_toArray, List.set_cons_zero, List.set_cons_succ]
  refine wpAnyL_take 4 (oi := { dst := some 10, op := Go.Op.fieldAddr 64 (Go.Operand.tmp 9) 0, type := 0, pos := "resv.go:34", after := #[{ on := 3, ground := Go.Ground.data }], guard := none }) (v := ?_) rfl (by kernel_rfl) (by kernel_rfl) (by kernel_rfl) (by kernel_rfl) (fun _ _ _ h => h) (Or.inl ⟨by rfl, ?_⟩) (by assumption) ?_
  rotate_left
  · (intro w hSw; (try dsimp only at hSw); go_split_ands; go_simp; try (with_reducible rfl))
  simp only [Act.put, List.setIfInBounds_toArray, List.set_cons_zero, List.set_cons_succ]
  refine wpAnyL_take 5 (oi := { dst := some 11, op := Go.Op.load 28 (Go.Operand.tmp 10), type := 28, pos := "resv.go:34", after := #[{ on := 4, ground := Go.Ground.data }], guard := none }) (v := ?_) rfl (by kernel_rfl) (by kernel_rfl) (by kernel_rfl) (by kernel_rfl) (fun _ _ _ h => h) (Or.inl ⟨by rfl, ?_⟩) (by assumption) ?_
  rotate_left
  · (intro w hSw; (try dsimp only at hSw); go_split_ands; go_simp; try (with_reducible rfl))
  simp only [Act.put, List.setIfInBounds_toArray, List.set_cons_zero, List.set_cons_succ]
  refine wpAnyL_take 6 (oi := { dst := some 12, op := Go.Op.move (Go.Operand.tmp 1), type := 3, pos := "resv.go:34", after := #[], guard := none }) (v := ?_) rfl (by kernel_rfl) (by kernel_rfl) (by kernel_rfl) (by kernel_rfl) (fun _ _ _ h => h) (Or.inl ⟨by rfl, ?_⟩) (by assumption) ?_
  rotate_left
  · (intro w hSw; (try dsimp only at hSw); go_split_ands; go_simp; try (with_reducible rfl))
  simp only [Act.put, List.setIfInBounds_toArray, List.set_cons_zero, List.set_cons_succ]
  refine wpAnyL_take 7 (oi := { dst := some 13, op := Go.Op.slice 28 (Go.Operand.tmp 11) none (some (Go.Operand.tmp 12)) none, type := 28, pos := "resv.go:34", after := #[{ on := 5, ground := Go.Ground.data }, { on := 6, ground := Go.Ground.data }], guard := none }) (v := ?_) rfl (by kernel_rfl) (by kernel_rfl) (by kernel_rfl) (by kernel_rfl) (fun _ _ _ h => h) (Or.inl ⟨by rfl, ?_⟩) (by assumption) ?_
  rotate_left
  · (intro w hSw; (try dsimp only at hSw); go_split_ands; go_simp; try (with_reducible rfl))
  simp only [Act.put, List.setIfInBounds_toArray, List.set_cons_zero, List.set_cons_succ]
  refine wpAnyL_take 9 (oi := { dst := some 15, op := Go.Op.move (Go.Operand.tmp 0), type := 23, pos := "resv.go:34", after := #[], guard := none }) (v := ?_) rfl (by kernel_rfl) (by kernel_rfl) (by kernel_rfl) (by kernel_rfl) (fun _ _ _ h => h) (Or.inl ⟨by rfl, ?_⟩) (by assumption) ?_
  rotate_left
  · (intro w hSw; (try dsimp only at hSw); go_split_ands; go_simp; try (with_reducible rfl))
  simp only [Act.put, List.setIfInBounds_toArray, List.set_cons_zero, List.set_cons_succ]
  refine wpAnyL_take 10 (oi := { dst := some 16, op := Go.Op.nilCheck (Go.Operand.tmp 15), type := 0, pos := "resv.go:34", after := #[{ on := 9, ground := Go.Ground.data }], guard := none }) (v := ?_) rfl (by kernel_rfl) (by kernel_rfl) (by kernel_rfl) (by kernel_rfl) (fun _ _ _ h => h) (Or.inl ⟨by rfl, ?_⟩) (by assumption) ?_
  rotate_left
  · (intro w hSw; (try dsimp only at hSw); go_split_ands; go_simp; try (with_reducible rfl))
  simp only [Act.put, List.setIfInBounds_toArray, List.set_cons_zero, List.set_cons_succ]
  refine wpAnyL_take 11 (oi := { dst := some 17, op := Go.Op.fieldAddr 64 (Go.Operand.tmp 16) 0, type := 0, pos := "resv.go:34", after := #[{ on := 10, ground := Go.Ground.data }], guard := none }) (v := ?_) rfl (by kernel_rfl) (by kernel_rfl) (by kernel_rfl) (by kernel_rfl) (fun _ _ _ h => h) (Or.inl ⟨by rfl, ?_⟩) (by assumption) ?_
  rotate_left
  · (intro w hSw; (try dsimp only at hSw); go_split_ands; go_simp; try (with_reducible rfl))
  simp only [Act.put, List.setIfInBounds_toArray, List.set_cons_zero, List.set_cons_succ]
  refine wpAnyL_take 12 (oi := { dst := some 18, op := Go.Op.load 28 (Go.Operand.tmp 17), type := 28, pos := "resv.go:34", after := #[{ on := 11, ground := Go.Ground.data }], guard := none }) (v := ?_) rfl (by kernel_rfl) (by kernel_rfl) (by kernel_rfl) (by kernel_rfl) (fun _ _ _ h => h) (Or.inl ⟨by rfl, ?_⟩) (by assumption) ?_
  rotate_left
  · (intro w hSw; (try dsimp only at hSw); go_split_ands; go_simp; try (with_reducible rfl))
  simp only [Act.put, List.setIfInBounds_toArray, List.set_cons_zero, List.set_cons_succ]
  refine wpAnyL_take 13 (oi := { dst := some 19, op := Go.Op.move (Go.Operand.tmp 1), type := 3, pos := "resv.go:34", after := #[], guard := none }) (v := ?_) rfl (by kernel_rfl) (by kernel_rfl) (by kernel_rfl) (by kernel_rfl) (fun _ _ _ h => h) (Or.inl ⟨by rfl, ?_⟩) (by assumption) ?_
  rotate_left
  · (intro w hSw; (try dsimp only at hSw); go_split_ands; go_simp; try (with_reducible rfl))
  simp only [Act.put, List.setIfInBounds_toArray, List.set_cons_zero, List.set_cons_succ]
  refine wpAnyL_take 14 (oi := { dst := some 20, op := Go.Op.binOp Go.BinOp.add 3 (Go.Operand.tmp 19) (Go.Operand.const (Go.Value.int Go.IntKind.i64 1)) 3, type := 3, pos := "resv.go:34", after := #[{ on := 13, ground := Go.Ground.data }], guard := none }) (v := ?_) rfl (by kernel_rfl) (by kernel_rfl) (by kernel_rfl) (by kernel_rfl) (fun _ _ _ h => h) (Or.inl ⟨by rfl, ?_⟩) (by assumption) ?_
  rotate_left
  · (intro w hSw; (try dsimp only at hSw); go_split_ands; go_simp; try (with_reducible rfl))
  simp only [Act.put, List.setIfInBounds_toArray, List.set_cons_zero, List.set_cons_succ]
  refine wpAnyL_take 15 (oi := { dst := some 21, op := Go.Op.slice 28 (Go.Operand.tmp 18) (some (Go.Operand.tmp 20)) none none, type := 28, pos := "resv.go:34", after := #[{ on := 12, ground := Go.Ground.data }, { on := 14, ground := Go.Ground.data }], guard := none }) (v := ?_) rfl (by kernel_rfl) (by kernel_rfl) (by kernel_rfl) (by kernel_rfl) (fun _ _ _ h => h) (Or.inl ⟨by rfl, ?_⟩) (by assumption) ?_
  rotate_left
  · (intro w hSw; (try dsimp only at hSw); go_split_ands; go_simp; try (with_reducible rfl))
  simp only [Act.put, List.setIfInBounds_toArray, List.set_cons_zero, List.set_cons_succ]
  refine wpAnyL_take 17 (oi := { dst := some 23, op := Go.Op.load 31 (Go.Operand.tmp 5), type := 31, pos := "resv.go:34", after := #[], guard := none }) (v := ?_) rfl (by kernel_rfl) (by kernel_rfl) (by kernel_rfl) (by kernel_rfl) (fun _ _ _ h => h) (Or.inl ⟨by rfl, ?_⟩) (by assumption) ?_
  rotate_left
  · (intro w hSw; (try dsimp only at hSw); go_split_ands; go_simp; try (with_reducible rfl))
  simp only [Act.put, List.setIfInBounds_toArray, List.set_cons_zero, List.set_cons_succ]
  refine wpAnyL_ready (rs := [1, 18]) (by kernel_rfl) (by simp) ?_
  refine AllReadyL.cons (o := { dst := some 7, op := Go.Op.buildSlice 28 0 #[], type := 28, pos := "resv.go:34", after := #[], guard := none }) rfl (fun K hK => ?_) ?_
  · go_simp
    refine hK.out _ _ (.inr (by (refine sT ?_ hc0 fz HY.out; (repeat (first | exact HK25.out | exact Keep.refl _ _ | refine Keep.drew ?_ | refine Keep.drewN ?_ _ | refine Keep.alloc ?_ _ | refine Keep.setNew ?_ (by omega) _)); done))) (fun hS15 => ?_)
    replace hS15 := hS15.resolve_left (by decide)
    try simp only [Act.put, List.setIfInBounds_toArray, List.set_cons_zero, List.set_cons_succ]
    refine wpAnyL_ready (rs := [8, 18]) (by kernel_rfl) (by simp) ?_
    refine AllReadyL.cons (o := { dst := some 14, op := Go.Op.call { callee := Go.Callee.builtin Go.Builtin.append, args := #[Go.Operand.tmp 7, Go.Operand.tmp 13], argTypes := #[28, 28] }, type := 28, pos := "resv.go:34", after := #[{ on := 1, ground := Go.Ground.data }, { on := 7, ground := Go.Ground.data }], guard := none }) rfl (fun K hK => ?_) ?_
    · go_simp
      refine hK.out _ _ (.inr (by (refine sT ?_ hc0 fz HY.out; (repeat (first | exact HK25.out | exact Keep.refl _ _ | refine Keep.drew ?_ | refine Keep.drewN ?_ _ | refine Keep.alloc ?_ _ | refine Keep.setNew ?_ (by omega) _)); done))) (fun hS16 => ?_)
      replace hS16 := hS16.resolve_left (by decide)
      try simp only [Act.put, List.setIfInBounds_toArray, List.set_cons_zero, List.set_cons_succ]
      refine wpAnyL_ready (rs := [16, 18]) (by kernel_rfl) (by simp) ?_
      refine AllReadyL.cons (o := { dst := some 22, op := Go.Op.call { callee := Go.Callee.builtin Go.Builtin.append, args := #[Go.Operand.tmp 14, Go.Operand.tmp 21], argTypes := #[28, 28] }, type := 28, pos := "resv.go:34", after := #[{ on := 8, ground := Go.Ground.data }, { on := 15, ground := Go.Ground.data }, { on := 8, ground := Go.Ground.chain }], guard := none }) rfl (fun K hK => ?_) ?_
      · go_simp
        refine hK.out _ _ (.inr (by (refine sT ?_ hc0 fz HY.out; (repeat (first | exact HK25.out | exact Keep.refl _ _ | refine Keep.drew ?_ | refine Keep.drewN ?_ _ | refine Keep.alloc ?_ _ | refine Keep.setNew ?_ (by omega) _)); done))) (fun hS17 => ?_)
        replace hS17 := hS17.resolve_left (by decide)
        try simp only [Act.put, List.setIfInBounds_toArray, List.set_cons_zero, List.set_cons_succ]
        refine wpAnyL_ready (rs := [18]) (by kernel_rfl) (by simp) ?_
        refine AllReadyL.cons (o := { dst := some 24, op := Go.Op.buildSlice 28 1 #[(0, Go.Operand.tmp 23)], type := 28, pos := "resv.go:34", after := #[{ on := 17, ground := Go.Ground.data }], guard := none }) rfl (fun K hK => ?_) ?_
        · go_simp
          refine hK.out _ _ (.inr (by (refine sT ?_ hc0 fz HY.out; (repeat (first | exact HK25.out | exact Keep.refl _ _ | refine Keep.drew ?_ | refine Keep.drewN ?_ _ | refine Keep.alloc ?_ _ | refine Keep.setNew ?_ (by omega) _)); done))) (fun hS18 => ?_)
          replace hS18 := hS18.resolve_left (by decide)
          try simp only [Act.put, List.setIfInBounds_toArray, List.set_cons_zero, List.set_cons_succ]
          refine wpAnyL_ready (rs := [19]) (by kernel_rfl) (by simp) ?_
          refine AllReadyL.cons (o := { dst := some 25, op := Go.Op.call { callee := Go.Callee.builtin Go.Builtin.append, args := #[Go.Operand.tmp 22, Go.Operand.tmp 24], argTypes := #[28, 28] }, type := 28, pos := "resv.go:34", after := #[{ on := 16, ground := Go.Ground.data }, { on := 18, ground := Go.Ground.data }, { on := 16, ground := Go.Ground.chain }], guard := none }) rfl (fun K hK => ?_) ?_
          · refine step_app et28 (by rfl) (.tmp 22) (.tmp 24) (by rfl) w1.heap.size _ 0 [] (by rfl) (own_empty_at (by simp only [heap_alloc_at, heap_drewN, heap_drew, World.size_alloc, Nat.left_eq_add, Nat.add_eq_left, Nat.reduceEqDiff, reduceIte, Nat.succ_ne_self, Nat.add_left_cancel_iff]) (by simp <;> omega)) _ 1 [.int .i64 y.s, .int .i64 y.p, .int .i64 y.f, .int .u8 y.b] (by rfl) (by refine Reads.new (e := 31) (z := (0, 0)) ?_ rfl _; simp only [heap_alloc_at, heap_drewN, heap_drew, World.size_alloc, Nat.left_eq_add, Nat.add_eq_left, Nat.reduceEqDiff, reduceIte, Nat.succ_ne_self, Nat.add_left_cancel_iff]) (by simp [Value.oneCell']) (by unfold maxLen; omega) (by omega) (by simp <;> omega) ?_
            intro v25 w25 ho25 hg25
            obtain ⟨a25, l25, c25, rfl⟩ := own_slice ho25
            have HK25 : Hid (Keep (fun _ => False) w1 w25) := Keep.grown (by (repeat (first | exact Keep.refl _ _ | exact Keep.refl _ _ | refine Keep.drew ?_ | refine Keep.drewN ?_ _ | refine Keep.alloc ?_ _ | refine Keep.setNew ?_ (by omega) _)); done) hg25 (fun x h1 h2 => by simp [Value.ownBlock] at h1; omega)
            have HO25 := Lib.hid ho25
            clear ho25 hg25
            refine hK.out _ _ (.inr (by (refine sT ?_ hc0 fz HY.out; (repeat (first | exact HK25.out | exact Keep.refl _ _ | refine Keep.drew ?_ | refine Keep.drewN ?_ _ | refine Keep.alloc ?_ _ | refine Keep.setNew ?_ (by omega) _)); done))) (fun hS19 => ?_)
            replace hS19 := hS19.resolve_left (by decide)
            try simp only [Act.put, List.setIfInBounds_toArray, List.set_cons_zero, List.set_cons_succ]
            refine wpAnyL_ready (rs := [20]) (by kernel_rfl) (by simp) ?_
            refine AllReadyL.cons (o := { dst := some 26, op := Go.Op.nilCheck (Go.Operand.tmp 6), type := 0, pos := "resv.go:34", after := #[{ on := 0, ground := Go.Ground.data }, { on := 0, ground := Go.Ground.phase }, { on := 1, ground := Go.Ground.phase }, { on := 2, ground := Go.Ground.phase }, { on := 3, ground := Go.Ground.phase }, { on := 4, ground := Go.Ground.phase }, { on := 5, ground := Go.Ground.phase }, { on := 6, ground := Go.Ground.phase }, { on := 7, ground := Go.Ground.phase }, { on := 8, ground := Go.Ground.phase }, { on := 9, ground := Go.Ground.phase }, { on := 10, ground := Go.Ground.phase }, { on := 11, ground := Go.Ground.phase }, { on := 12, ground := Go.Ground.phase }, { on := 13, ground := Go.Ground.phase }, { on := 14, ground := Go.Ground.phase }, { on := 15, ground := Go.Ground.phase }, { on := 16, ground := Go.Ground.phase }, { on := 17, ground := Go.Ground.phase }, { on := 18, ground := Go.Ground.phase }, { on := 19, ground := Go.Ground.phase }], guard := none }) rfl (fun K hK => ?_) ?_
            · go_simp
              refine hK.out _ _ (.inr (by (refine sT ?_ hc0 fz HY.out; (repeat (first | exact HK25.out | exact Keep.refl _ _ | refine Keep.drew ?_ | refine Keep.drewN ?_ _ | refine Keep.alloc ?_ _ | refine Keep.setNew ?_ (by omega) _)); done))) (fun hS20 => ?_)
              replace hS20 := hS20.resolve_left (by decide)
              try simp only [Act.put, List.setIfInBounds_toArray, List.set_cons_zero, List.set_cons_succ]
              refine wpAnyL_take 21 (oi := { dst := some 27, op := Go.Op.fieldAddr 64 (Go.Operand.tmp 26) 0, type := 0, pos := "resv.go:34", after := #[{ on := 20, ground := Go.Ground.data }, { on := 0, ground := Go.Ground.phase }, { on := 1, ground := Go.Ground.phase }, { on := 2, ground := Go.Ground.phase }, { on := 3, ground := Go.Ground.phase }, { on := 4, ground := Go.Ground.phase }, { on := 5, ground := Go.Ground.phase }, { on := 6, ground := Go.Ground.phase }, { on := 7, ground := Go.Ground.phase }, { on := 8, ground := Go.Ground.phase }, { on := 9, ground := Go.Ground.phase }, { on := 10, ground := Go.Ground.phase }, { on := 11, ground := Go.Ground.phase }, { on := 12, ground := Go.Ground.phase }, { on := 13, ground := Go.Ground.phase }, { on := 14, ground := Go.Ground.phase }, { on := 15, ground := Go.Ground.phase }, { on := 16, ground := Go.Ground.phase }, { on := 17, ground := Go.Ground.phase }, { on := 18, ground := Go.Ground.phase }, { on := 19, ground := Go.Ground.phase }], guard := none }) (v := ?_) rfl (by kernel_rfl) (by kernel_rfl) (by kernel_rfl) (by kernel_rfl) (fun _ _ _ h => h) (Or.inl ⟨by rfl, ?_⟩) (by assumption) ?_
              rotate_left
              · (intro w hSw; (try dsimp only at hSw); go_split_ands; go_simp; try (with_reducible rfl))
              simp only [Act.put, List.setIfInBounds_toArray, List.set_cons_zero, List.set_cons_succ]
              refine wpAnyL_ready (rs := [22]) (by kernel_rfl) (by simp) ?_
              refine AllReadyL.cons (o := { dst := none, op := Go.Op.store 28 (Go.Operand.tmp 27) (Go.Operand.tmp 25), type := 0, pos := "resv.go:34", after := #[{ on := 21, ground := Go.Ground.data }, { on := 19, ground := Go.Ground.data }, { on := 19, ground := Go.Ground.chain }, { on := 0, ground := Go.Ground.phase }, { on := 1, ground := Go.Ground.phase }, { on := 2, ground := Go.Ground.phase }, { on := 3, ground := Go.Ground.phase }, { on := 4, ground := Go.Ground.phase }, { on := 5, ground := Go.Ground.phase }, { on := 6, ground := Go.Ground.phase }, { on := 7, ground := Go.Ground.phase }, { on := 8, ground := Go.Ground.phase }, { on := 9, ground := Go.Ground.phase }, { on := 10, ground := Go.Ground.phase }, { on := 11, ground := Go.Ground.phase }, { on := 12, ground := Go.Ground.phase }, { on := 13, ground := Go.Ground.phase }, { on := 14, ground := Go.Ground.phase }, { on := 15, ground := Go.Ground.phase }, { on := 16, ground := Go.Ground.phase }, { on := 17, ground := Go.Ground.phase }, { on := 18, ground := Go.Ground.phase }, { on := 19, ground := Go.Ground.phase }], guard := none }) rfl (fun K hK => ?_) ?_
              · go_simp
                refine hK.out _ _ (.inl rfl) (fun _ => ?_)
                try simp only [Act.put, List.setIfInBounds_toArray, List.set_cons_zero, List.set_cons_succ]
                refine wpAnyL_done (by kernel_rfl) ?_ _
                refine NoPanic.normal ?_
                have hq := put_close (L' := [y]) HR1.out (by omega) (by simp) HK25.out HO25.out (by simp) (by rw [List.nil_append, rvE.cs_one]; first | done | rfl)
                go_wp2
                go_end0
                exact ⟨rfl, _, hq.1, (KW.out.mono (fun _ _ h => h.elim)).trans hq.2.1, fun z hz => by have := hq.2.2 z hz; omega⟩
              exact AllReadyL.nil
            exact AllReadyL.nil
          exact AllReadyL.nil
        exact AllReadyL.nil
      refine AllReadyL.cons (o := { dst := some 24, op := Go.Op.buildSlice 28 1 #[(0, Go.Operand.tmp 23)], type := 28, pos := "resv.go:34", after := #[{ on := 17, ground := Go.Ground.data }], guard := none }) rfl (fun K hK => ?_) ?_
      · go_simp
        refine hK.out _ _ (.inr (by (refine sT ?_ hc0 fz HY.out; (repeat (first | exact HK25.out | exact Keep.refl _ _ | refine Keep.drew ?_ | refine Keep.drewN ?_ _ | refine Keep.alloc ?_ _ | refine Keep.setNew ?_ (by omega) _)); done))) (fun hS17 => ?_)
        replace hS17 := hS17.resolve_left (by decide)
        try simp only [Act.put, List.setIfInBounds_toArray, List.set_cons_zero, List.set_cons_succ]
        refine wpAnyL_ready (rs := [16]) (by kernel_rfl) (by simp) ?_
        refine AllReadyL.cons (o := { dst := some 22, op := Go.Op.call { callee := Go.Callee.builtin Go.Builtin.append, args := #[Go.Operand.tmp 14, Go.Operand.tmp 21], argTypes := #[28, 28] }, type := 28, pos := "resv.go:34", after := #[{ on := 8, ground := Go.Ground.data }, { on := 15, ground := Go.Ground.data }, { on := 8, ground := Go.Ground.chain }], guard := none }) rfl (fun K hK => ?_) ?_
        · go_simp
          refine hK.out _ _ (.inr (by (refine sT ?_ hc0 fz HY.out; (repeat (first | exact HK25.out | exact Keep.refl _ _ | refine Keep.drew ?_ | refine Keep.drewN ?_ _ | refine Keep.alloc ?_ _ | refine Keep.setNew ?_ (by omega) _)); done))) (fun hS18 => ?_)
          replace hS18 := hS18.resolve_left (by decide)
          try simp only [Act.put, List.setIfInBounds_toArray, List.set_cons_zero, List.set_cons_succ]
          refine wpAnyL_ready (rs := [19]) (by kernel_rfl) (by simp) ?_
          refine AllReadyL.cons (o := { dst := some 25, op := Go.Op.call { callee := Go.Callee.builtin Go.Builtin.append, args := #[Go.Operand.tmp 22, Go.Operand.tmp 24], argTypes := #[28, 28] }, type := 28, pos := "resv.go:34", after := #[{ on := 16, ground := Go.Ground.data }, { on := 18, ground := Go.Ground.data }, { on := 16, ground := Go.Ground.chain }], guard := none }) rfl (fun K hK => ?_) ?_
          · refine step_app et28 (by rfl) (.tmp 22) (.tmp 24) (by rfl) w1.heap.size _ 0 [] (by rfl) (own_empty_at (by simp only [heap_alloc_at, heap_drewN, heap_drew, World.size_alloc, Nat.left_eq_add, Nat.add_eq_left, Nat.reduceEqDiff, reduceIte, Nat.succ_ne_self, Nat.add_left_cancel_iff]) (by simp <;> omega)) _ 1 [.int .i64 y.s, .int .i64 y.p, .int .i64 y.f, .int .u8 y.b] (by rfl) (by refine Reads.new (e := 31) (z := (0, 0)) ?_ rfl _; simp only [heap_alloc_at, heap_drewN, heap_drew, World.size_alloc, Nat.left_eq_add, Nat.add_eq_left, Nat.reduceEqDiff, reduceIte, Nat.succ_ne_self, Nat.add_left_cancel_iff]) (by simp [Value.oneCell']) (by unfold maxLen; omega) (by omega) (by simp <;> omega) ?_
            intro v25 w25 ho25 hg25
            obtain ⟨a25, l25, c25, rfl⟩ := own_slice ho25
            have HK25 : Hid (Keep (fun _ => False) w1 w25) := Keep.grown (by (repeat (first | exact Keep.refl _ _ | exact Keep.refl _ _ | refine Keep.drew ?_ | refine Keep.drewN ?_ _ | refine Keep.alloc ?_ _ | refine Keep.setNew ?_ (by omega) _)); done) hg25 (fun x h1 h2 => by simp [Value.ownBlock] at h1; omega)
            have HO25 := Lib.hid ho25
            clear ho25 hg25
            refine hK.out _ _ (.inr (by (refine sT ?_ hc0 fz HY.out; (repeat (first | exact HK25.out | exact Keep.refl _ _ | refine Keep.drew ?_ | refine Keep.drewN ?_ _ | refine Keep.alloc ?_ _ | refine Keep.setNew ?_ (by omega) _)); done))) (fun hS19 => ?_)
            replace hS19 := hS19.resolve_left (by decide)
            try simp only [Act.put, List.setIfInBounds_toArray, List.set_cons_zero, List.set_cons_succ]
            refine wpAnyL_ready (rs := [20]) (by kernel_rfl) (by simp) ?_
            refine AllReadyL.cons (o := { dst := some 26, op := Go.Op.nilCheck (Go.Operand.tmp 6), type := 0, pos := "resv.go:34", after := #[{ on := 0, ground := Go.Ground.data }, { on := 0, ground := Go.Ground.phase }, { on := 1, ground := Go.Ground.phase }, { on := 2, ground := Go.Ground.phase }, { on := 3, ground := Go.Ground.phase }, { on := 4, ground := Go.Ground.phase }, { on := 5, ground := Go.Ground.phase }, { on := 6, ground := Go.Ground.phase }, { on := 7, ground := Go.Ground.phase }, { on := 8, ground := Go.Ground.phase }, { on := 9, ground := Go.Ground.phase }, { on := 10, ground := Go.Ground.phase }, { on := 11, ground := Go.Ground.phase }, { on := 12, ground := Go.Ground.phase }, { on := 13, ground := Go.Ground.phase }, { on := 14, ground := Go.Ground.phase }, { on := 15, ground := Go.Ground.phase }, { on := 16, ground := Go.Ground.phase }, { on := 17, ground := Go.Ground.phase }, { on := 18, ground := Go.Ground.phase }, { on := 19, ground := Go.Ground.phase }], guard := none }) rfl (fun K hK => ?_) ?_
            · go_simp
              refine hK.out _ _ (.inr (by (refine sT ?_ hc0 fz HY.out; (repeat (first | exact HK25.out | exact Keep.refl _ _ | refine Keep.drew ?_ | refine Keep.drewN ?_ _ | refine Keep.alloc ?_ _ | refine Keep.setNew ?_ (by omega) _)); done))) (fun hS20 => ?_)
              replace hS20 := hS20.resolve_left (by decide)
              try simp only [Act.put, List.setIfInBounds_toArray, List.set_cons_zero, List.set_cons_succ]
              refine wpAnyL_take 21 (oi := { dst := some 27, op := Go.Op.fieldAddr 64 (Go.Operand.tmp 26) 0, type := 0, pos := "resv.go:34", after := #[{ on := 20, ground := Go.Ground.data }, { on := 0, ground := Go.Ground.phase }, { on := 1, ground := Go.Ground.phase }, { on := 2, ground := Go.Ground.phase }, { on := 3, ground := Go.Ground.phase }, { on := 4, ground := Go.Ground.phase }, { on := 5, ground := Go.Ground.phase }, { on := 6, ground := Go.Ground.phase }, { on := 7, ground := Go.Ground.phase }, { on := 8, ground := Go.Ground.phase }, { on := 9, ground := Go.Ground.phase }, { on := 10, ground := Go.Ground.phase }, { on := 11, ground := Go.Ground.phase }, { on := 12, ground := Go.Ground.phase }, { on := 13, ground := Go.Ground.phase }, { on := 14, ground := Go.Ground.phase }, { on := 15, ground := Go.Ground.phase }, { on := 16, ground := Go.Ground.phase }, { on := 17, ground := Go.Ground.phase }, { on := 18, ground := Go.Ground.phase }, { on := 19, ground := Go.Ground.phase }], guard := none }) (v := ?_) rfl (by kernel_rfl) (by kernel_rfl) (by kernel_rfl) (by kernel_rfl) (fun _ _ _ h => h) (Or.inl ⟨by rfl, ?_⟩) (by assumption) ?_
              rotate_left
              · (intro w hSw; (try dsimp only at hSw); go_split_ands; go_simp; try (with_reducible rfl))
              simp only [Act.put, List.setIfInBounds_toArray, List.set_cons_zero, List.set_cons_succ]
              refine wpAnyL_ready (rs := [22]) (by kernel_rfl) (by simp) ?_
              refine AllReadyL.cons (o := { dst := none, op := Go.Op.store 28 (Go.Operand.tmp 27) (Go.Operand.tmp 25), type := 0, pos := "resv.go:34", after := #[{ on := 21, ground := Go.Ground.data }, { on := 19, ground := Go.Ground.data }, { on := 19, ground := Go.Ground.chain }, { on := 0, ground := Go.Ground.phase }, { on := 1, ground := Go.Ground.phase }, { on := 2, ground := Go.Ground.phase }, { on := 3, ground := Go.Ground.phase }, { on := 4, ground := Go.Ground.phase }, { on := 5, ground := Go.Ground.phase }, { on := 6, ground := Go.Ground.phase }, { on := 7, ground := Go.Ground.phase }, { on := 8, ground := Go.Ground.phase }, { on := 9, ground := Go.Ground.phase }, { on := 10, ground := Go.Ground.phase }, { on := 11, ground := Go.Ground.phase }, { on := 12, ground := Go.Ground.phase }, { on := 13, ground := Go.Ground.phase }, { on := 14, ground := Go.Ground.phase }, { on := 15, ground := Go.Ground.phase }, { on := 16, ground := Go.Ground.phase }, { on := 17, ground := Go.Ground.phase }, { on := 18, ground := Go.Ground.phase }, { on := 19, ground := Go.Ground.phase }], guard := none }) rfl (fun K hK => ?_) ?_
              · go_simp
                refine hK.out _ _ (.inl rfl) (fun _ => ?_)
                try simp only [Act.put, List.setIfInBounds_toArray, List.set_cons_zero, List.set_cons_succ]
                refine wpAnyL_done (by kernel_rfl) ?_ _
                refine NoPanic.normal ?_
                have hq := put_close (L' := [y]) HR1.out (by omega) (by simp) HK25.out HO25.out (by simp) (by rw [List.nil_append, rvE.cs_one]; first | done | rfl)
                go_wp2
                go_end0
                exact ⟨rfl, _, hq.1, (KW.out.mono (fun _ _ h => h.elim)).trans hq.2.1, fun z hz => by have := hq.2.2 z hz; omega⟩
              exact AllReadyL.nil
            exact AllReadyL.nil
          exact AllReadyL.nil
        exact AllReadyL.nil
      exact AllReadyL.nil
    refine AllReadyL.cons (o := { dst := some 24, op := Go.Op.buildSlice 28 1 #[(0, Go.Operand.tmp 23)], type := 28, pos := "resv.go:34", after := #[{ on := 17, ground := Go.Ground.data }], guard := none }) rfl (fun K hK => ?_) ?_
    · go_simp
      refine hK.out _ _ (.inr (by (refine sT ?_ hc0 fz HY.out; (repeat (first | exact HK25.out | exact Keep.refl _ _ | refine Keep.drew ?_ | refine Keep.drewN ?_ _ | refine Keep.alloc ?_ _ | refine Keep.setNew ?_ (by omega) _)); done))) (fun hS16 => ?_)
      replace hS16 := hS16.resolve_left (by decide)
      try simp only [Act.put, List.setIfInBounds_toArray, List.set_cons_zero, List.set_cons_succ]
      refine wpAnyL_ready (rs := [8]) (by kernel_rfl) (by simp) ?_
      refine AllReadyL.cons (o := { dst := some 14, op := Go.Op.call { callee := Go.Callee.builtin Go.Builtin.append, args := #[Go.Operand.tmp 7, Go.Operand.tmp 13], argTypes := #[28, 28] }, type := 28, pos := "resv.go:34", after := #[{ on := 1, ground := Go.Ground.data }, { on := 7, ground := Go.Ground.data }], guard := none }) rfl (fun K hK => ?_) ?_
      · go_simp
        refine hK.out _ _ (.inr (by (refine sT ?_ hc0 fz HY.out; (repeat (first | exact HK25.out | exact Keep.refl _ _ | refine Keep.drew ?_ | refine Keep.drewN ?_ _ | refine Keep.alloc ?_ _ | refine Keep.setNew ?_ (by omega) _)); done))) (fun hS17 => ?_)
        replace hS17 := hS17.resolve_left (by decide)
        try simp only [Act.put, List.setIfInBounds_toArray, List.set_cons_zero, List.set_cons_succ]
        refine wpAnyL_ready (rs := [16]) (by kernel_rfl) (by simp) ?_
        refine AllReadyL.cons (o := { dst := some 22, op := Go.Op.call { callee := Go.Callee.builtin Go.Builtin.append, args := #[Go.Operand.tmp 14, Go.Operand.tmp 21], argTypes := #[28, 28] }, type := 28, pos := "resv.go:34", after := #[{ on := 8, ground := Go.Ground.data }, { on := 15, ground := Go.Ground.data }, { on := 8, ground := Go.Ground.chain }], guard := none }) rfl (fun K hK => ?_) ?_
        · go_simp
          refine hK.out _ _ (.inr (by (refine sT ?_ hc0 fz HY.out; (repeat (first | exact HK25.out | exact Keep.refl _ _ | refine Keep.drew ?_ | refine Keep.drewN ?_ _ | refine Keep.alloc ?_ _ | refine Keep.setNew ?_ (by omega) _)); done))) (fun hS18 => ?_)
          replace hS18 := hS18.resolve_left (by decide)
          try simp only [Act.put, List.setIfInBounds_toArray, List.set_cons_zero, List.set_cons_succ]
          refine wpAnyL_ready (rs := [19]) (by kernel_rfl) (by simp) ?_
          refine AllReadyL.cons (o := { dst := some 25, op := Go.Op.call { callee := Go.Callee.builtin Go.Builtin.append, args := #[Go.Operand.tmp 22, Go.Operand.tmp 24], argTypes := #[28, 28] }, type := 28, pos := "resv.go:34", after := #[{ on := 16, ground := Go.Ground.data }, { on := 18, ground := Go.Ground.data }, { on := 16, ground := Go.Ground.chain }], guard := none }) rfl (fun K hK => ?_) ?_
          · refine step_app et28 (by rfl) (.tmp 22) (.tmp 24) (by rfl) w1.heap.size _ 0 [] (by rfl) (own_empty_at (by simp only [heap_alloc_at, heap_drewN, heap_drew, World.size_alloc, Nat.left_eq_add, Nat.add_eq_left, Nat.reduceEqDiff, reduceIte, Nat.succ_ne_self, Nat.add_left_cancel_iff]) (by simp <;> omega)) _ 1 [.int .i64 y.s, .int .i64 y.p, .int .i64 y.f, .int .u8 y.b] (by rfl) (by refine Reads.new (e := 31) (z := (0, 0)) ?_ rfl _; simp only [heap_alloc_at, heap_drewN, heap_drew, World.size_alloc, Nat.left_eq_add, Nat.add_eq_left, Nat.reduceEqDiff, reduceIte, Nat.succ_ne_self, Nat.add_left_cancel_iff]) (by simp [Value.oneCell']) (by unfold maxLen; omega) (by omega) (by simp <;> omega) ?_
            intro v25 w25 ho25 hg25
            obtain ⟨a25, l25, c25, rfl⟩ := own_slice ho25
            have HK25 : Hid (Keep (fun _ => False) w1 w25) := Keep.grown (by (repeat (first | exact Keep.refl _ _ | exact Keep.refl _ _ | refine Keep.drew ?_ | refine Keep.drewN ?_ _ | refine Keep.alloc ?_ _ | refine Keep.setNew ?_ (by omega) _)); done) hg25 (fun x h1 h2 => by simp [Value.ownBlock] at h1; omega)
            have HO25 := Lib.hid ho25
            clear ho25 hg25
            refine hK.out _ _ (.inr (by (refine sT ?_ hc0 fz HY.out; (repeat (first | exact HK25.out | exact Keep.refl _ _ | refine Keep.drew ?_ | refine Keep.drewN ?_ _ | refine Keep.alloc ?_ _ | refine Keep.setNew ?_ (by omega) _)); done))) (fun hS19 => ?_)
            replace hS19 := hS19.resolve_left (by decide)
            try simp only [Act.put, List.setIfInBounds_toArray, List.set_cons_zero, List.set_cons_succ]
            refine wpAnyL_ready (rs := [20]) (by kernel_rfl) (by simp) ?_
            refine AllReadyL.cons (o := { dst := some 26, op := Go.Op.nilCheck (Go.Operand.tmp 6), type := 0, pos := "resv.go:34", after := #[{ on := 0, ground := Go.Ground.data }, { on := 0, ground := Go.Ground.phase }, { on := 1, ground := Go.Ground.phase }, { on := 2, ground := Go.Ground.phase }, { on := 3, ground := Go.Ground.phase }, { on := 4, ground := Go.Ground.phase }, { on := 5, ground := Go.Ground.phase }, { on := 6, ground := Go.Ground.phase }, { on := 7, ground := Go.Ground.phase }, { on := 8, ground := Go.Ground.phase }, { on := 9, ground := Go.Ground.phase }, { on := 10, ground := Go.Ground.phase }, { on := 11, ground := Go.Ground.phase }, { on := 12, ground := Go.Ground.phase }, { on := 13, ground := Go.Ground.phase }, { on := 14, ground := Go.Ground.phase }, { on := 15, ground := Go.Ground.phase }, { on := 16, ground := Go.Ground.phase }, { on := 17, ground := Go.Ground.phase }, { on := 18, ground := Go.Ground.phase }, { on := 19, ground := Go.Ground.phase }], guard := none }) rfl (fun K hK => ?_) ?_
            · go_simp
              refine hK.out _ _ (.inr (by (refine sT ?_ hc0 fz HY.out; (repeat (first | exact HK25.out | exact Keep.refl _ _ | refine Keep.drew ?_ | refine Keep.drewN ?_ _ | refine Keep.alloc ?_ _ | refine Keep.setNew ?_ (by omega) _)); done))) (fun hS20 => ?_)
              replace hS20 := hS20.resolve_left (by decide)
              try simp only [Act.put, List.setIfInBounds_toArray, List.set_cons_zero, List.set_cons_succ]
              refine wpAnyL_take 21 (oi := { dst := some 27, op := Go.Op.fieldAddr 64 (Go.Operand.tmp 26) 0, type := 0, pos := "resv.go:34", after := #[{ on := 20, ground := Go.Ground.data }, { on := 0, ground := Go.Ground.phase }, { on := 1, ground := Go.Ground.phase }, { on := 2, ground := Go.Ground.phase }, { on := 3, ground := Go.Ground.phase }, { on := 4, ground := Go.Ground.phase }, { on := 5, ground := Go.Ground.phase }, { on := 6, ground := Go.Ground.phase }, { on := 7, ground := Go.Ground.phase }, { on := 8, ground := Go.Ground.phase }, { on := 9, ground := Go.Ground.phase }, { on := 10, ground := Go.Ground.phase }, { on := 11, ground := Go.Ground.phase }, { on := 12, ground := Go.Ground.phase }, { on := 13, ground := Go.Ground.phase }, { on := 14, ground := Go.Ground.phase }, { on := 15, ground := Go.Ground.phase }, { on := 16, ground := Go.Ground.phase }, { on := 17, ground := Go.Ground.phase }, { on := 18, ground := Go.Ground.phase }, { on := 19, ground := Go.Ground.phase }], guard := none }) (v := ?_) rfl (by kernel_rfl) (by kernel_rfl) (by kernel_rfl) (by kernel_rfl) (fun _ _ _ h => h) (Or.inl ⟨by rfl, ?_⟩) (by assumption) ?_
              rotate_left
              · (intro w hSw; (try dsimp only at hSw); go_split_ands; go_simp; try (with_reducible rfl))
              simp only [Act.put, List.setIfInBounds_toArray, List.set_cons_zero, List.set_cons_succ]
              refine wpAnyL_ready (rs := [22]) (by kernel_rfl) (by simp) ?_
              refine AllReadyL.cons (o := { dst := none, op := Go.Op.store 28 (Go.Operand.tmp 27) (Go.Operand.tmp 25), type := 0, pos := "resv.go:34", after := #[{ on := 21, ground := Go.Ground.data }, { on := 19, ground := Go.Ground.data }, { on := 19, ground := Go.Ground.chain }, { on := 0, ground := Go.Ground.phase }, { on := 1, ground := Go.Ground.phase }, { on := 2, ground := Go.Ground.phase }, { on := 3, ground := Go.Ground.phase }, { on := 4, ground := Go.Ground.phase }, { on := 5, ground := Go.Ground.phase }, { on := 6, ground := Go.Ground.phase }, { on := 7, ground := Go.Ground.phase }, { on := 8, ground := Go.Ground.phase }, { on := 9, ground := Go.Ground.phase }, { on := 10, ground := Go.Ground.phase }, { on := 11, ground := Go.Ground.phase }, { on := 12, ground := Go.Ground.phase }, { on := 13, ground := Go.Ground.phase }, { on := 14, ground := Go.Ground.phase }, { on := 15, ground := Go.Ground.phase }, { on := 16, ground := Go.Ground.phase }, { on := 17, ground := Go.Ground.phase }, { on := 18, ground := Go.Ground.phase }, { on := 19, ground := Go.Ground.phase }], guard := none }) rfl (fun K hK => ?_) ?_
              · go_simp
                refine hK.out _ _ (.inl rfl) (fun _ => ?_)
                try simp only [Act.put, List.setIfInBounds_toArray, List.set_cons_zero, List.set_cons_succ]
                refine wpAnyL_done (by kernel_rfl) ?_ _
                refine NoPanic.normal ?_
                have hq := put_close (L' := [y]) HR1.out (by omega) (by simp) HK25.out HO25.out (by simp) (by rw [List.nil_append, rvE.cs_one]; first | done | rfl)
                go_wp2
                go_end0
                exact ⟨rfl, _, hq.1, (KW.out.mono (fun _ _ h => h.elim)).trans hq.2.1, fun z hz => by have := hq.2.2 z hz; omega⟩
              exact AllReadyL.nil
            exact AllReadyL.nil
          exact AllReadyL.nil
        exact AllReadyL.nil
      exact AllReadyL.nil
    exact AllReadyL.nil
  refine AllReadyL.cons (o := { dst := some 24, op := Go.Op.buildSlice 28 1 #[(0, Go.Operand.tmp 23)], type := 28, pos := "resv.go:34", after := #[{ on := 17, ground := Go.Ground.data }], guard := none }) rfl (fun K hK => ?_) ?_
  · go_simp
    refine hK.out _ _ (.inr (by (refine sT ?_ hc0 fz HY.out; (repeat (first | exact HK25.out | exact Keep.refl _ _ | refine Keep.drew ?_ | refine Keep.drewN ?_ _ | refine Keep.alloc ?_ _ | refine Keep.setNew ?_ (by omega) _)); done))) (fun hS15 => ?_)
    replace hS15 := hS15.resolve_left (by decide)
    try simp only [Act.put, List.setIfInBounds_toArray, List.set_cons_zero, List.set_cons_succ]
    refine wpAnyL_ready (rs := [1]) (by kernel_rfl) (by simp) ?_
    refine AllReadyL.cons (o := { dst := some 7, op := Go.Op.buildSlice 28 0 #[], type := 28, pos := "resv.go:34", after := #[], guard := none }) rfl (fun K hK => ?_) ?_
    · go_simp
      refine hK.out _ _ (.inr (by (refine sT ?_ hc0 fz HY.out; (repeat (first | exact HK25.out | exact Keep.refl _ _ | refine Keep.drew ?_ | refine Keep.drewN ?_ _ | refine Keep.alloc ?_ _ | refine Keep.setNew ?_ (by omega) _)); done))) (fun hS16 => ?_)
      replace hS16 := hS16.resolve_left (by decide)
      try simp only [Act.put, List.setIfInBounds_toArray, List.set_cons_zero, List.set_cons_succ]
      refine wpAnyL_ready (rs := [8]) (by kernel_rfl) (by simp) ?_
      refine AllReadyL.cons (o := { dst := some 14, op := Go.Op.call { callee := Go.Callee.builtin Go.Builtin.append, args := #[Go.Operand.tmp 7, Go.Operand.tmp 13], argTypes := #[28, 28] }, type := 28, pos := "resv.go:34", after := #[{ on := 1, ground := Go.Ground.data }, { on := 7, ground := Go.Ground.data }], guard := none }) rfl (fun K hK => ?_) ?_
      · go_simp
        refine hK.out _ _ (.inr (by (refine sT ?_ hc0 fz HY.out; (repeat (first | exact HK25.out | exact Keep.refl _ _ | refine Keep.drew ?_ | refine Keep.drewN ?_ _ | refine Keep.alloc ?_ _ | refine Keep.setNew ?_ (by omega) _)); done))) (fun hS17 => ?_)
        replace hS17 := hS17.resolve_left (by decide)
        try simp only [Act.put, List.setIfInBounds_toArray, List.set_cons_zero, List.set_cons_succ]
        refine wpAnyL_ready (rs := [16]) (by kernel_rfl) (by simp) ?_
        refine AllReadyL.cons (o := { dst := some 22, op := Go.Op.call { callee := Go.Callee.builtin Go.Builtin.append, args := #[Go.Operand.tmp 14, Go.Operand.tmp 21], argTypes := #[28, 28] }, type := 28, pos := "resv.go:34", after := #[{ on := 8, ground := Go.Ground.data }, { on := 15, ground := Go.Ground.data }, { on := 8, ground := Go.Ground.chain }], guard := none }) rfl (fun K hK => ?_) ?_
        · go_simp
          refine hK.out _ _ (.inr (by (refine sT ?_ hc0 fz HY.out; (repeat (first | exact HK25.out | exact Keep.refl _ _ | refine Keep.drew ?_ | refine Keep.drewN ?_ _ | refine Keep.alloc ?_ _ | refine Keep.setNew ?_ (by omega) _)); done))) (fun hS18 => ?_)
          replace hS18 := hS18.resolve_left (by decide)
          try simp only [Act.put, List.setIfInBounds_toArray, List.set_cons_zero, List.set_cons_succ]
          refine wpAnyL_ready (rs := [19]) (by kernel_rfl) (by simp) ?_
          refine AllReadyL.cons (o := { dst := some 25, op := Go.Op.call { callee := Go.Callee.builtin Go.Builtin.append, args := #[Go.Operand.tmp 22, Go.Operand.tmp 24], argTypes := #[28, 28] }, type := 28, pos := "resv.go:34", after := #[{ on := 16, ground := Go.Ground.data }, { on := 18, ground := Go.Ground.data }, { on := 16, ground := Go.Ground.chain }], guard := none }) rfl (fun K hK => ?_) ?_
          · refine step_app et28 (by rfl) (.tmp 22) (.tmp 24) (by rfl) w1.heap.size _ 0 [] (by rfl) (own_empty_at (by simp only [heap_alloc_at, heap_drewN, heap_drew, World.size_alloc, Nat.left_eq_add, Nat.add_eq_left, Nat.reduceEqDiff, reduceIte, Nat.succ_ne_self, Nat.add_left_cancel_iff]) (by simp <;> omega)) _ 1 [.int .i64 y.s, .int .i64 y.p, .int .i64 y.f, .int .u8 y.b] (by rfl) (by refine Reads.new (e := 31) (z := (0, 0)) ?_ rfl _; simp only [heap_alloc_at, heap_drewN, heap_drew, World.size_alloc, Nat.left_eq_add, Nat.add_eq_left, Nat.reduceEqDiff, reduceIte, Nat.succ_ne_self, Nat.add_left_cancel_iff]) (by simp [Value.oneCell']) (by unfold maxLen; omega) (by omega) (by simp <;> omega) ?_
            intro v25 w25 ho25 hg25
            obtain ⟨a25, l25, c25, rfl⟩ := own_slice ho25
            have HK25 : Hid (Keep (fun _ => False) w1 w25) := Keep.grown (by (repeat (first | exact Keep.refl _ _ | exact Keep.refl _ _ | refine Keep.drew ?_ | refine Keep.drewN ?_ _ | refine Keep.alloc ?_ _ | refine Keep.setNew ?_ (by omega) _)); done) hg25 (fun x h1 h2 => by simp [Value.ownBlock] at h1; omega)
            have HO25 := Lib.hid ho25
            clear ho25 hg25
            refine hK.out _ _ (.inr (by (refine sT ?_ hc0 fz HY.out; (repeat (first | exact HK25.out | exact Keep.refl _ _ | refine Keep.drew ?_ | refine Keep.drewN ?_ _ | refine Keep.alloc ?_ _ | refine Keep.setNew ?_ (by omega) _)); done))) (fun hS19 => ?_)
            replace hS19 := hS19.resolve_left (by decide)
            try simp only [Act.put, List.setIfInBounds_toArray, List.set_cons_zero, List.set_cons_succ]
            refine wpAnyL_ready (rs := [20]) (by kernel_rfl) (by simp) ?_
            refine AllReadyL.cons (o := { dst := some 26, op := Go.Op.nilCheck (Go.Operand.tmp 6), type := 0, pos := "resv.go:34", after := #[{ on := 0, ground := Go.Ground.data }, { on := 0, ground := Go.Ground.phase }, { on := 1, ground := Go.Ground.phase }, { on := 2, ground := Go.Ground.phase }, { on := 3, ground := Go.Ground.phase }, { on := 4, ground := Go.Ground.phase }, { on := 5, ground := Go.Ground.phase }, { on := 6, ground := Go.Ground.phase }, { on := 7, ground := Go.Ground.phase }, { on := 8, ground := Go.Ground.phase }, { on := 9, ground := Go.Ground.phase }, { on := 10, ground := Go.Ground.phase }, { on := 11, ground := Go.Ground.phase }, { on := 12, ground := Go.Ground.phase }, { on := 13, ground := Go.Ground.phase }, { on := 14, ground := Go.Ground.phase }, { on := 15, ground := Go.Ground.phase }, { on := 16, ground := Go.Ground.phase }, { on := 17, ground := Go.Ground.phase }, { on := 18, ground := Go.Ground.phase }, { on := 19, ground := Go.Ground.phase }], guard := none }) rfl (fun K hK => ?_) ?_
            · go_simp
              refine hK.out _ _ (.inr (by (refine sT ?_ hc0 fz HY.out; (repeat (first | exact HK25.out | exact Keep.refl _ _ | refine Keep.drew ?_ | refine Keep.drewN ?_ _ | refine Keep.alloc ?_ _ | refine Keep.setNew ?_ (by omega) _)); done))) (fun hS20 => ?_)
              replace hS20 := hS20.resolve_left (by decide)
              try simp only [Act.put, List.setIfInBounds_toArray, List.set_cons_zero, List.set_cons_succ]
              refine wpAnyL_take 21 (oi := { dst := some 27, op := Go.Op.fieldAddr 64 (Go.Operand.tmp 26) 0, type := 0, pos := "resv.go:34", after := #[{ on := 20, ground := Go.Ground.data }, { on := 0, ground := Go.Ground.phase }, { on := 1, ground := Go.Ground.phase }, { on := 2, ground := Go.Ground.phase }, { on := 3, ground := Go.Ground.phase }, { on := 4, ground := Go.Ground.phase }, { on := 5, ground := Go.Ground.phase }, { on := 6, ground := Go.Ground.phase }, { on := 7, ground := Go.Ground.phase }, { on := 8, ground := Go.Ground.phase }, { on := 9, ground := Go.Ground.phase }, { on := 10, ground := Go.Ground.phase }, { on := 11, ground := Go.Ground.phase }, { on := 12, ground := Go.Ground.phase }, { on := 13, ground := Go.Ground.phase }, { on := 14, ground := Go.Ground.phase }, { on := 15, ground := Go.Ground.phase }, { on := 16, ground := Go.Ground.phase }, { on := 17, ground := Go.Ground.phase }, { on := 18, ground := Go.Ground.phase }, { on := 19, ground := Go.Ground.phase }], guard := none }) (v := ?_) rfl (by kernel_rfl) (by kernel_rfl) (by kernel_rfl) (by kernel_rfl) (fun _ _ _ h => h) (Or.inl ⟨by rfl, ?_⟩) (by assumption) ?_
              rotate_left
              · (intro w hSw; (try dsimp only at hSw); go_split_ands; go_simp; try (with_reducible rfl))
              simp only [Act.put, List.setIfInBounds_toArray, List.set_cons_zero, List.set_cons_succ]
              refine wpAnyL_ready (rs := [22]) (by kernel_rfl) (by simp) ?_
              refine AllReadyL.cons (o := { dst := none, op := Go.Op.store 28 (Go.Operand.tmp 27) (Go.Operand.tmp 25), type := 0, pos := "resv.go:34", after := #[{ on := 21, ground := Go.Ground.data }, { on := 19, ground := Go.Ground.data }, { on := 19, ground := Go.Ground.chain }, { on := 0, ground := Go.Ground.phase }, { on := 1, ground := Go.Ground.phase }, { on := 2, ground := Go.Ground.phase }, { on := 3, ground := Go.Ground.phase }, { on := 4, ground := Go.Ground.phase }, { on := 5, ground := Go.Ground.phase }, { on := 6, ground := Go.Ground.phase }, { on := 7, ground := Go.Ground.phase }, { on := 8, ground := Go.Ground.phase }, { on := 9, ground := Go.Ground.phase }, { on := 10, ground := Go.Ground.phase }, { on := 11, ground := Go.Ground.phase }, { on := 12, ground := Go.Ground.phase }, { on := 13, ground := Go.Ground.phase }, { on := 14, ground := Go.Ground.phase }, { on := 15, ground := Go.Ground.phase }, { on := 16, ground := Go.Ground.phase }, { on := 17, ground := Go.Ground.phase }, { on := 18, ground := Go.Ground.phase }, { on := 19, ground := Go.Ground.phase }], guard := none }) rfl (fun K hK => ?_) ?_
              · go_simp
                refine hK.out _ _ (.inl rfl) (fun _ => ?_)
                try simp only [Act.put, List.setIfInBounds_toArray, List.set_cons_zero, List.set_cons_succ]
                refine wpAnyL_done (by kernel_rfl) ?_ _
                refine NoPanic.normal ?_
                have hq := put_close (L' := [y]) HR1.out (by omega) (by simp) HK25.out HO25.out (by simp) (by rw [List.nil_append, rvE.cs_one]; first | done | rfl)
                go_wp2
                go_end0
                exact ⟨rfl, _, hq.1, (KW.out.mono (fun _ _ h => h.elim)).trans hq.2.1, fun z hz => by have := hq.2.2 z hz; omega⟩
              exact AllReadyL.nil
            exact AllReadyL.nil
          exact AllReadyL.nil
        exact AllReadyL.nil
      exact AllReadyL.nil
    exact AllReadyL.nil
  exact AllReadyL.nil

end Go.Proofs.Ytmbgebmhdofdaaa
