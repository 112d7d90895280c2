/- Reservations: one is touched, in any list; even and bit at any number. -/
import Derived.Test.YtmbgebmhdofdaaaO
import Derived.Test.YtmbgebmhdofdaaaC
import Derived.Test.YtmbgebmhdofdaaaF
import Derived.Test.YtmbgebmhdofdaaaIns
set_option linter.unusedVariables false
set_option linter.unusedSimpArgs false
namespace Go.Proofs.Ytmbgebmhdofdaaa
open Go.RowKit Go.Own

def rmv {α : Type} (L : List α) (k : Nat) : List α := L.take k ++ L.drop (k + 1)
theorem rmv_length {α : Type} {L : List α} {k : Nat} (h : k < L.length) : (rmv L k).length = L.length - 1 := by simp [rmv]; omega

section
variable {P : Program} {t e : TypeId} {z : Value} {k bytes : Nat}
theorem step_appG (T : ET P t e z k bytes) {w : World} {ops : Array Oper} {o : Oper} {a : Act} {Kk : Act → World → Prop} {Q : Exit → Act → World → Prop} {E : Prop} (hgd : o.guard = none) (s x : Operand)
    (ho : o.op = .call { callee := .builtin .append, args := #[s, x], argTypes := #[t, t] })
    (B : Nat) (v : Value) (n : Nat) (xs : List Value) (hs : a.eval s = v) (hown : w.ownsRow B e k v n xs)
    (vx : Value) (m : Nat) (cs : List Value) (hx : a.eval x = vx) (hr : Reads w vx m k cs) (h1 : ∀ u ∈ cs, u.oneCell' = true)
    (h63 : n + m ≤ maxLen) (hby : (n + m) * bytes ≤ 140737488355328) (hB : B ≤ w.heap.size)
    (K : ∀ v' w', w'.ownsRow B e k v' (n + m) (xs ++ cs) → w.grownBy w' v.ownBlock → (∀ x, v'.ownBlock = some x → v.ownBlock = some x ∨ w.heap.size ≤ x) → Kk (a.put o.dst v') w') :
    if Region.wanted o (yielded ops a.tmps) = true then Oper.wp P o a w Kk Q else E := by
  have hw : Region.wanted o (yielded ops a.tmps) = true := by simp [Region.wanted, hgd]
  rw [if_pos hw]
  exact wp_appG T s x ho B v n xs hs hown vx m cs hx hr h1 h63 hby hB K
end

theorem ne_lit {b s n c : Nat} (h : b ≠ s) : some b ≠ (Value.slice (some ⟨s, 0, none⟩) n c).ownBlock := by simp [Value.ownBlock]; exact h
theorem ne_new {v : Value} {b s N : Nat} (h : ∀ x, v.ownBlock = some x → (Value.slice (some ⟨s, 0, none⟩) 0 0).ownBlock = some x ∨ N ≤ x) (h1 : b ≠ s) (h2 : b < N) : some b ≠ v.ownBlock := by
  intro e
  rcases h b e.symm with h | h
  · simp [Value.ownBlock] at h; omega
  · omega

theorem put_rmv {w w2 : World} {B p k : Nat} {v : Value} {L : List Rv} {a2 : Option Addr} {l2 c2 : Nat} (hR : RepR w B p v L) (hk : k < L.length) (hB : B ≤ w.heap.size)
    (HK2 : Keep (fun _ => False) w w2) (HO2 : w2.ownsRow w.heap.size 31 rvE.k (.slice a2 l2 c2) (0 + k + (L.length - (k + 1))) ([] ++ rvE.cs (L.take k) ++ rvE.cs (L.drop (k + 1)))) :
    RepR (w2.setCell ⟨p, 0, none⟩ (.slice a2 l2 c2)) B p (.slice a2 l2 c2) (rmv L k) ∧ Keep (fun x => x = p) w (w2.setCell ⟨p, 0, none⟩ (.slice a2 l2 c2)) ∧
      (∀ x, (Value.slice a2 l2 c2).ownBlock = some x → w.heap.size ≤ x) :=
  put_close (L' := rmv L k) hR hB (by rw [rmv_length hk]; have := hR.hl; omega) HK2 HO2 (by rw [rmv_length hk]; omega) (by rw [List.nil_append, ← rvE.cs_append]; rfl)

theorem put_mov {w w2 : World} {B p k : Nat} {v : Value} {L : List Rv} {y : Rv} {a2 : Option Addr} {l2 c2 : Nat} (hR : RepR w B p v L) (hk : k < L.length) (hB : B ≤ w.heap.size)
    (HK2 : Keep (fun _ => False) w w2) (HO2 : w2.ownsRow w.heap.size 31 rvE.k (.slice a2 l2 c2) (0 + k + (L.length - (k + 1)) + 1) ([] ++ rvE.cs (L.take k) ++ rvE.cs (L.drop (k + 1)) ++ rvE.c y)) :
    RepR (w2.setCell ⟨p, 0, none⟩ (.slice a2 l2 c2)) B p (.slice a2 l2 c2) (rmv L k ++ [y]) ∧ Keep (fun x => x = p) w (w2.setCell ⟨p, 0, none⟩ (.slice a2 l2 c2)) ∧
      (∀ x, (Value.slice a2 l2 c2).ownBlock = some x → w.heap.size ≤ x) :=
  put_close (L' := rmv L k ++ [y]) hR hB (by rw [List.length_append, rmv_length hk]; have := hR.hl; simp; omega) HK2 HO2 (by rw [List.length_append, rmv_length hk]; simp; omega) (by rw [List.nil_append, rvE.cs_append, rvE.cs_one, ← rvE.cs_append]; rfl)

set_option maxHeartbeats 4000000 in
theorem touch_any (B p k : Nat) (v : Value) (L : List Rv) (y : Rv) (hk : k < L.length) (w : World) (hB : B ≤ w.heap.size) (hR : RepR w B p v L) :
    Calls Try.prog 33 #[.pointer (some ⟨p, 0, none⟩), .int .i64 k, rvV y] w fun e w' => e = .returned (.tuple #[]) ∧ ∃ v', RepR w' B p v' (rmv L k ++ [y]) ∧ Keep (fun z => z = p) w w' ∧ (∀ z, v'.ownBlock = some z → w.heap.size ≤ z) := by
  have hl := hR.hl
  have KW : Hid (Keep (fun _ => False) w (w.alloc (.cells #[.int .i64 y.s, .int .i64 y.p, .int .i64 y.f, .int .u8 y.b] 31))) := (Keep.refl _ _).alloc _
  have HY := Lib.hid (cells4 (heap_alloc_new w (.cells #[.int .i64 y.s, .int .i64 y.p, .int .i64 y.f, .int .u8 y.b] 31)))
  have HR1 := Lib.hid (hR.keep0 KW.out)
  unfold rvV
  go_enter Try.func33, Try.ntmps33
  go_wp2
  obtain ⟨nb, hnb⟩ : ∃ z, w.heap.size = z := ⟨_, rfl⟩
  obtain ⟨w1, hw1⟩ : ∃ z, w.alloc (.cells #[.int .i64 y.s, .int .i64 y.p, .int .i64 y.f, .int .u8 y.b] 31) = z := ⟨_, rfl⟩
  rw [hw1] at KW HY HR1 ⊢
  rw [hnb] at HY ⊢
  have hs1 := KW.out.size
  clear hw1
  have hc0 := HR1.out.c0
  have fz : w1.frozen? ⟨p, 0, none⟩ = false := frozen_block HR1.out.hp
  obtain ⟨vlo, hlo, hrlo⟩ := sl_lo et28 HR1.out.hv (Nat.le_of_lt hk)
  obtain ⟨vhi, hhi, hrhi⟩ := sl_hi et28 HR1.out.hv (i := k + 1) (by omega) (↑k + 1) (by simp)
  have RLO := Lib.hid hrlo
  have RHI := Lib.hid hrhi
  clear hrlo hrhi
  obtain ⟨y0, y1, y2, y3⟩ := HY.out
  have hw1 : IntKind.i64.wrap (↑k + 1) = ↑k + 1 := IntWalk.i64_in _ (by omega)
  have k0 : (0 : Int) ≤ k := by omega
  refine wp_region_noPanic ?_
  refine wp_region_L (fun w' => w'.cell? ⟨p, 0, none⟩ = some v ∧ w'.frozen? ⟨p, 0, none⟩ = false ∧ w'.cell? ⟨nb, 0, none⟩ = some (.int .i64 y.s) ∧ w'.cell? ⟨nb, 1, none⟩ = some (.int .i64 y.p) ∧ w'.cell? ⟨nb, 2, none⟩ = some (.int .i64 y.f) ∧ w'.cell? ⟨nb, 3, none⟩ = some (.int .u8 y.b)) 22 (by kernel_rfl) (by (refine sT ?_ hc0 fz HY.out; (repeat (first | exact HK25.out | exact HK22.out | exact HK14.out | exact Keep.refl _ _ | refine Keep.drew ?_ | refine Keep.drewN ?_ _ | refine Keep.alloc ?_ _ | refine Keep.setNew ?_ (by omega) _)); done)) (fun hS0 => ?_)
  refine wpAnyL_take 0 (oi := { dst := some 6, op := Go.Op.move (Go.Operand.tmp 0), type := 23, pos := "resv.go:34", after := #[], guard := none }) (v := ?_) rfl (by kernel_rfl) (by kernel_rfl) (by kernel_rfl) (by kernel_rfl) (fun _ _ _ h => h) (Or.inl ⟨by rfl, ?_⟩) (by assumption) ?_
  rotate_left
  · (intro w hSw; (try dsimp only at hSw); go_split_ands; go_simp; try (with_reducible rfl))
  simp only [Act.put, List.setIfInBounds_toArray, List.set_cons_zero, List.set_cons_succ]
  refine wpAnyL_take 2 (oi := { dst := some 8, op := Go.Op.move (Go.Operand.tmp 0), type := 23, pos := "resv.go:34", after := #[], guard := none }) (v := ?_) rfl (by kernel_rfl) (by kernel_rfl) (by kernel_rfl) (by kernel_rfl) (fun _ _ _ h => h) (Or.inl ⟨by rfl, ?_⟩) (by assumption) ?_
  rotate_left
  · (intro w hSw; (try dsimp only at hSw); go_split_ands; go_simp; try (with_reducible rfl))
  simp only [Act.put, List.setIfInBounds_toArray, List.set_cons_zero, List.set_cons_succ]
  refine wpAnyL_take 3 (oi := { dst := some 9, op := Go.Op.nilCheck (Go.Operand.tmp 8), type := 0, pos := "resv.go:34", after := #[{ on := 2, ground := Go.Ground.data }], guard := none }) (v := ?_) rfl (by kernel_rfl) (by kernel_rfl) (by kernel_rfl) (by kernel_rfl) (fun _ _ _ h => h) (Or.inl ⟨by rfl, ?_⟩) (by assumption) ?_
  rotate_left
  · (intro w hSw; (try dsimp only at hSw); go_split_ands; go_simp; try (with_reducible rfl))
  simp only [Act.put, List.setIfInBounds_toArray, List.set_cons_zero, List.set_cons_succ]
  refine wpAnyL_take 4 (oi := { dst := some 10, op := Go.Op.fieldAddr 64 (Go.Operand.tmp 9) 0, type := 0, pos := "resv.go:34", after := #[{ on := 3, ground := Go.Ground.data }], guard := none }) (v := ?_) rfl (by kernel_rfl) (by kernel_rfl) (by kernel_rfl) (by kernel_rfl) (fun _ _ _ h => h) (Or.inl ⟨by rfl, ?_⟩) (by assumption) ?_
  rotate_left
  · (intro w hSw; (try dsimp only at hSw); go_split_ands; go_simp; try (with_reducible rfl))
  simp only [Act.put, List.setIfInBounds_toArray, List.set_cons_zero, List.set_cons_succ]
  refine wpAnyL_take 5 (oi := { dst := some 11, op := Go.Op.load 28 (Go.Operand.tmp 10), type := 28, pos := "resv.go:34", after := #[{ on := 4, ground := Go.Ground.data }], guard := none }) (v := ?_) rfl (by kernel_rfl) (by kernel_rfl) (by kernel_rfl) (by kernel_rfl) (fun _ _ _ h => h) (Or.inl ⟨by rfl, ?_⟩) (by assumption) ?_
  rotate_left
  · (intro w hSw; (try dsimp only at hSw); go_split_ands; go_simp; try (with_reducible rfl))
  simp only [Act.put, List.setIfInBounds_toArray, List.set_cons_zero, List.set_cons_succ]
  refine wpAnyL_take 6 (oi := { dst := some 12, op := Go.Op.move (Go.Operand.tmp 1), type := 3, pos := "resv.go:34", after := #[], guard := none }) (v := ?_) rfl (by kernel_rfl) (by kernel_rfl) (by kernel_rfl) (by kernel_rfl) (fun _ _ _ h => h) (Or.inl ⟨by rfl, ?_⟩) (by assumption) ?_
  rotate_left
  · (intro w hSw; (try dsimp only at hSw); go_split_ands; go_simp; try (with_reducible rfl))
  simp only [Act.put, List.setIfInBounds_toArray, List.set_cons_zero, List.set_cons_succ]
  refine wpAnyL_take 7 (oi := { dst := some 13, op := Go.Op.slice 28 (Go.Operand.tmp 11) none (some (Go.Operand.tmp 12)) none, type := 28, pos := "resv.go:34", after := #[{ on := 5, ground := Go.Ground.data }, { on := 6, ground := Go.Ground.data }], guard := none }) (v := ?_) rfl (by kernel_rfl) (by kernel_rfl) (by kernel_rfl) (by kernel_rfl) (fun _ _ _ h => h) (Or.inl ⟨by rfl, ?_⟩) (by assumption) ?_
  rotate_left
  · (intro w hSw; (try dsimp only at hSw); go_split_ands; go_simp; try (with_reducible rfl))
  simp only [Act.put, List.setIfInBounds_toArray, List.set_cons_zero, List.set_cons_succ]
  refine wpAnyL_take 9 (oi := { dst := some 15, op := Go.Op.move (Go.Operand.tmp 0), type := 23, pos := "resv.go:34", after := #[], guard := none }) (v := ?_) rfl (by kernel_rfl) (by kernel_rfl) (by kernel_rfl) (by kernel_rfl) (fun _ _ _ h => h) (Or.inl ⟨by rfl, ?_⟩) (by assumption) ?_
  rotate_left
  · (intro w hSw; (try dsimp only at hSw); go_split_ands; go_simp; try (with_reducible rfl))
  simp only [Act.put, List.setIfInBounds_toArray, List.set_cons_zero, List.set_cons_succ]
  refine wpAnyL_take 10 (oi := { dst := some 16, op := Go.Op.nilCheck (Go.Operand.tmp 15), type := 0, pos := "resv.go:34", after := #[{ on := 9, ground := Go.Ground.data }], guard := none }) (v := ?_) rfl (by kernel_rfl) (by kernel_rfl) (by kernel_rfl) (by kernel_rfl) (fun _ _ _ h => h) (Or.inl ⟨by rfl, ?_⟩) (by assumption) ?_
  rotate_left
  · (intro w hSw; (try dsimp only at hSw); go_split_ands; go_simp; try (with_reducible rfl))
  simp only [Act.put, List.setIfInBounds_toArray, List.set_cons_zero, List.set_cons_succ]
  refine wpAnyL_take 11 (oi := { dst := some 17, op := Go.Op.fieldAddr 64 (Go.Operand.tmp 16) 0, type := 0, pos := "resv.go:34", after := #[{ on := 10, ground := Go.Ground.data }], guard := none }) (v := ?_) rfl (by kernel_rfl) (by kernel_rfl) (by kernel_rfl) (by kernel_rfl) (fun _ _ _ h => h) (Or.inl ⟨by rfl, ?_⟩) (by assumption) ?_
  rotate_left
  · (intro w hSw; (try dsimp only at hSw); go_split_ands; go_simp; try (with_reducible rfl))
  simp only [Act.put, List.setIfInBounds_toArray, List.set_cons_zero, List.set_cons_succ]
  refine wpAnyL_take 12 (oi := { dst := some 18, op := Go.Op.load 28 (Go.Operand.tmp 17), type := 28, pos := "resv.go:34", after := #[{ on := 11, ground := Go.Ground.data }], guard := none }) (v := ?_) rfl (by kernel_rfl) (by kernel_rfl) (by kernel_rfl) (by kernel_rfl) (fun _ _ _ h => h) (Or.inl ⟨by rfl, ?_⟩) (by assumption) ?_
  rotate_left
  · (intro w hSw; (try dsimp only at hSw); go_split_ands; go_simp; try (with_reducible rfl))
  simp only [Act.put, List.setIfInBounds_toArray, List.set_cons_zero, List.set_cons_succ]
  refine wpAnyL_take 13 (oi := { dst := some 19, op := Go.Op.move (Go.Operand.tmp 1), type := 3, pos := "resv.go:34", after := #[], guard := none }) (v := ?_) rfl (by kernel_rfl) (by kernel_rfl) (by kernel_rfl) (by kernel_rfl) (fun _ _ _ h => h) (Or.inl ⟨by rfl, ?_⟩) (by assumption) ?_
  rotate_left
  · (intro w hSw; (try dsimp only at hSw); go_split_ands; go_simp; try (with_reducible rfl))
  simp only [Act.put, List.setIfInBounds_toArray, List.set_cons_zero, List.set_cons_succ]
  refine wpAnyL_take 14 (oi := { dst := some 20, op := Go.Op.binOp Go.BinOp.add 3 (Go.Operand.tmp 19) (Go.Operand.const (Go.Value.int Go.IntKind.i64 1)) 3, type := 3, pos := "resv.go:34", after := #[{ on := 13, ground := Go.Ground.data }], guard := none }) (v := ?_) rfl (by kernel_rfl) (by kernel_rfl) (by kernel_rfl) (by kernel_rfl) (fun _ _ _ h => h) (Or.inl ⟨by rfl, ?_⟩) (by assumption) ?_
  rotate_left
  · (intro w hSw; (try dsimp only at hSw); go_split_ands; go_simp; try (with_reducible rfl))
  simp only [Act.put, List.setIfInBounds_toArray, List.set_cons_zero, List.set_cons_succ]
  refine wpAnyL_take 15 (oi := { dst := some 21, op := Go.Op.slice 28 (Go.Operand.tmp 18) (some (Go.Operand.tmp 20)) none none, type := 28, pos := "resv.go:34", after := #[{ on := 12, ground := Go.Ground.data }, { on := 14, ground := Go.Ground.data }], guard := none }) (v := ?_) rfl (by kernel_rfl) (by kernel_rfl) (by kernel_rfl) (by kernel_rfl) (fun _ _ _ h => h) (Or.inl ⟨by rfl, ?_⟩) (by assumption) ?_
  rotate_left
  · (intro w hSw; (try dsimp only at hSw); go_split_ands; go_simp; try (with_reducible rfl))
  simp only [Act.put, List.setIfInBounds_toArray, List.set_cons_zero, List.set_cons_succ]
  refine wpAnyL_take 17 (oi := { dst := some 23, op := Go.Op.load 31 (Go.Operand.tmp 5), type := 31, pos := "resv.go:34", after := #[], guard := none }) (v := ?_) rfl (by kernel_rfl) (by kernel_rfl) (by kernel_rfl) (by kernel_rfl) (fun _ _ _ h => h) (Or.inl ⟨by rfl, ?_⟩) (by assumption) ?_
  rotate_left
  · (intro w hSw; (try dsimp only at hSw); go_split_ands; go_simp; try (with_reducible rfl))
  simp only [Act.put, List.setIfInBounds_toArray, List.set_cons_zero, List.set_cons_succ]
  refine wpAnyL_ready (rs := [1, 18]) (by kernel_rfl) (by simp) ?_
  refine AllReadyL.cons (o := { dst := some 7, op := Go.Op.buildSlice 28 0 #[], type := 28, pos := "resv.go:34", after := #[], guard := none }) rfl (fun K hK => ?_) ?_
  · go_simp
    refine hK.out _ _ (.inr (by (refine sT ?_ hc0 fz HY.out; (repeat (first | exact HK25.out | exact HK22.out | exact HK14.out | exact Keep.refl _ _ | refine Keep.drew ?_ | refine Keep.drewN ?_ _ | refine Keep.alloc ?_ _ | refine Keep.setNew ?_ (by omega) _)); done))) (fun hS15 => ?_)
    replace hS15 := hS15.resolve_left (by decide)
    try simp only [Act.put, List.setIfInBounds_toArray, List.set_cons_zero, List.set_cons_succ]
    refine wpAnyL_ready (rs := [8, 18]) (by kernel_rfl) (by simp) ?_
    refine AllReadyL.cons (o := { dst := some 14, op := Go.Op.call { callee := Go.Callee.builtin Go.Builtin.append, args := #[Go.Operand.tmp 7, Go.Operand.tmp 13], argTypes := #[28, 28] }, type := 28, pos := "resv.go:34", after := #[{ on := 1, ground := Go.Ground.data }, { on := 7, ground := Go.Ground.data }], guard := none }) rfl (fun K hK => ?_) ?_
    · refine step_appG et28 (by rfl) (.tmp 7) (.tmp 13) (by rfl) w1.heap.size _ 0 [] (by rfl) (own_empty_at (by simp only [heap_alloc_at, heap_drewN, heap_drew, World.size_alloc, Nat.left_eq_add, Nat.add_eq_left, Nat.reduceEqDiff, reduceIte, Nat.succ_ne_self, Nat.add_left_cancel_iff]) (by simp)) vlo k (rvE.cs (L.take k)) (by rfl) (RLO.out.keep (S := fun _ => False) (by (repeat (first | exact Keep.refl _ _ | exact Keep.refl _ _ | refine Keep.drew ?_ | refine Keep.drewN ?_ _ | refine Keep.alloc ?_ _ | refine Keep.setNew ?_ (by omega) _)); done) (fun _ _ _ _ => id)) (rvE.cs_one_cell _) (by unfold maxLen; omega) (by omega) (by simp <;> omega) ?_
      intro v14 w14 ho14 hg14 hw14
      try simp only [heap_drew, heap_drewN, World.size_alloc] at hw14
      have HW14 := Lib.hid hw14
      clear hw14
      have HK14 : Hid (Keep (fun _ => False) w1 w14) := Keep.grown (by (repeat (first | exact Keep.refl _ _ | exact Keep.refl _ _ | refine Keep.drew ?_ | refine Keep.drewN ?_ _ | refine Keep.alloc ?_ _ | refine Keep.setNew ?_ (by omega) _)); done) hg14 (fun x h1 h2 => by simp [Value.ownBlock] at h1; omega)
      have HO14 := Lib.hid ho14
      have HG14 := Lib.hid hg14
      have hz14 := hg14.size
      try simp at hz14
      clear ho14 hg14
      refine hK.out _ _ (.inr (by (refine sT ?_ hc0 fz HY.out; (repeat (first | exact HK25.out | exact HK22.out | exact HK14.out | exact Keep.refl _ _ | refine Keep.drew ?_ | refine Keep.drewN ?_ _ | refine Keep.alloc ?_ _ | refine Keep.setNew ?_ (by omega) _)); done))) (fun hS16 => ?_)
      replace hS16 := hS16.resolve_left (by decide)
      try simp only [Act.put, List.setIfInBounds_toArray, List.set_cons_zero, List.set_cons_succ]
      refine wpAnyL_ready (rs := [16, 18]) (by kernel_rfl) (by simp) ?_
      refine AllReadyL.cons (o := { dst := some 22, op := Go.Op.call { callee := Go.Callee.builtin Go.Builtin.append, args := #[Go.Operand.tmp 14, Go.Operand.tmp 21], argTypes := #[28, 28] }, type := 28, pos := "resv.go:34", after := #[{ on := 8, ground := Go.Ground.data }, { on := 15, ground := Go.Ground.data }, { on := 8, ground := Go.Ground.chain }], guard := none }) rfl (fun K hK => ?_) ?_
      · refine step_app et28 (by rfl) (.tmp 14) (.tmp 21) (by rfl) w1.heap.size v14 _ _ (by rfl) (by first | exact HO14.out | exact HO14.out.alloc _ | fail) vhi (L.length - (k + 1)) (rvE.cs (L.drop (k + 1))) (by rfl) (RHI.out.keep (S := fun _ => False) (by (repeat (first | exact HK14.out | exact Keep.refl _ _ | refine Keep.drew ?_ | refine Keep.drewN ?_ _ | refine Keep.alloc ?_ _ | refine Keep.setNew ?_ (by omega) _)); done) (fun _ _ _ _ => id)) (rvE.cs_one_cell _) (by unfold maxLen; omega) (by omega) (by have := HK14.out.size; simp <;> omega) ?_
        intro v22 w22 ho22 hg22
        have HK22 : Hid (Keep (fun _ => False) w1 w22) := Keep.grown (by (repeat (first | exact HK14.out | exact Keep.refl _ _ | refine Keep.drew ?_ | refine Keep.drewN ?_ _ | refine Keep.alloc ?_ _ | refine Keep.setNew ?_ (by omega) _)); done) hg22 (fun x h1 h2 => by have := (HO14.out.lt x h1).1; omega)
        have HO22 := Lib.hid ho22
        have HG22 := Lib.hid hg22
        clear ho22 hg22
        refine hK.out _ _ (.inr (by (refine sT ?_ hc0 fz HY.out; (repeat (first | exact HK25.out | exact HK22.out | exact HK14.out | exact Keep.refl _ _ | refine Keep.drew ?_ | refine Keep.drewN ?_ _ | refine Keep.alloc ?_ _ | refine Keep.setNew ?_ (by omega) _)); done))) (fun hS17 => ?_)
        replace hS17 := hS17.resolve_left (by decide)
        try simp only [Act.put, List.setIfInBounds_toArray, List.set_cons_zero, List.set_cons_succ]
        refine wpAnyL_ready (rs := [18]) (by kernel_rfl) (by simp) ?_
        refine AllReadyL.cons (o := { dst := some 24, op := Go.Op.buildSlice 28 1 #[(0, Go.Operand.tmp 23)], type := 28, pos := "resv.go:34", after := #[{ on := 17, ground := Go.Ground.data }], guard := none }) rfl (fun K hK => ?_) ?_
        · go_simp
          refine hK.out _ _ (.inr (by (refine sT ?_ hc0 fz HY.out; (repeat (first | exact HK25.out | exact HK22.out | exact HK14.out | exact Keep.refl _ _ | refine Keep.drew ?_ | refine Keep.drewN ?_ _ | refine Keep.alloc ?_ _ | refine Keep.setNew ?_ (by omega) _)); done))) (fun hS18 => ?_)
          replace hS18 := hS18.resolve_left (by decide)
          try simp only [Act.put, List.setIfInBounds_toArray, List.set_cons_zero, List.set_cons_succ]
          refine wpAnyL_ready (rs := [19]) (by kernel_rfl) (by simp) ?_
          refine AllReadyL.cons (o := { dst := some 25, op := Go.Op.call { callee := Go.Callee.builtin Go.Builtin.append, args := #[Go.Operand.tmp 22, Go.Operand.tmp 24], argTypes := #[28, 28] }, type := 28, pos := "resv.go:34", after := #[{ on := 16, ground := Go.Ground.data }, { on := 18, ground := Go.Ground.data }, { on := 16, ground := Go.Ground.chain }], guard := none }) rfl (fun K hK => ?_) ?_
          · refine step_app et28 (by rfl) (.tmp 22) (.tmp 24) (by rfl) w1.heap.size v22 _ _ (by rfl) (by first | exact HO22.out | exact HO22.out.alloc _ | fail) _ 1 [.int .i64 y.s, .int .i64 y.p, .int .i64 y.f, .int .u8 y.b] (by rfl) (by refine Reads.new (e := 31) (z := (0, 0)) ?_ rfl _; first | (simp only [heap_alloc_at, heap_drewN, heap_drew, World.size_alloc, Nat.left_eq_add, Nat.add_eq_left, Nat.reduceEqDiff, reduceIte, Nat.succ_ne_self, Nat.add_left_cancel_iff]; done) | (refine (HG22.out.block _ ?_ ?_).trans ?_; (first | (simp only [heap_alloc_at, heap_drewN, heap_drew, World.size_alloc, Nat.left_eq_add, Nat.add_eq_left, Nat.reduceEqDiff, reduceIte, Nat.succ_ne_self, Nat.add_left_cancel_iff]; done) | (simp only [World.size_alloc, World.size_drew, heap_drewN]; omega) | (simp; done) | (simp; omega) | (dsimp only; simp only [heap_drew, heap_drewN, World.size_alloc]; omega) | omega | (trace_state; fail)); (first | (intro hh; have := (HO14.out.lt _ hh.symm).2; simp at this; done) | (intro hh; have := (HO14.out.lt _ hh.symm).2; omega) | (exact ne_new HW14.out (by omega) (by omega))); (first | (simp only [heap_alloc_at, heap_drewN, heap_drew, World.size_alloc, Nat.left_eq_add, Nat.add_eq_left, Nat.reduceEqDiff, reduceIte, Nat.succ_ne_self, Nat.add_left_cancel_iff]; done) | (refine (HG14.out.block _ ?_ ?_).trans ?_; (first | (simp only [heap_alloc_at, heap_drewN, heap_drew, World.size_alloc, Nat.left_eq_add, Nat.add_eq_left, Nat.reduceEqDiff, reduceIte, Nat.succ_ne_self, Nat.add_left_cancel_iff]; done) | (simp only [World.size_alloc, World.size_drew, heap_drewN]; omega) | (simp; done) | (simp; omega) | (dsimp only; simp only [heap_drew, heap_drewN, World.size_alloc]; omega) | omega | (trace_state; fail)); (first | (exact ne_lit (by omega)) | (simp [Value.ownBlock, Act.eval]; done) | (simp [Value.ownBlock]; omega) | (show some _ ≠ some _; intro hh; injection hh; omega)); (simp only [heap_alloc_at, heap_drewN, heap_drew, World.size_alloc, Nat.left_eq_add, Nat.add_eq_left, Nat.reduceEqDiff, reduceIte, Nat.succ_ne_self, Nat.add_left_cancel_iff]; done))))) (by simp [Value.oneCell']) (by unfold maxLen; omega) (by omega) (by have := HK22.out.size; simp <;> omega) ?_
            intro v25 w25 ho25 hg25
            obtain ⟨a25, l25, c25, rfl⟩ := own_slice ho25
            have HK25 : Hid (Keep (fun _ => False) w1 w25) := Keep.grown (by (repeat (first | exact HK22.out | exact Keep.refl _ _ | refine Keep.drew ?_ | refine Keep.drewN ?_ _ | refine Keep.alloc ?_ _ | refine Keep.setNew ?_ (by omega) _)); done) hg25 (fun x h1 h2 => by have := (HO22.out.lt x h1).1; omega)
            have HO25 := Lib.hid ho25
            clear ho25 hg25
            refine hK.out _ _ (.inr (by (refine sT ?_ hc0 fz HY.out; (repeat (first | exact HK25.out | exact HK22.out | exact HK14.out | exact Keep.refl _ _ | refine Keep.drew ?_ | refine Keep.drewN ?_ _ | refine Keep.alloc ?_ _ | refine Keep.setNew ?_ (by omega) _)); done))) (fun hS19 => ?_)
            replace hS19 := hS19.resolve_left (by decide)
            try simp only [Act.put, List.setIfInBounds_toArray, List.set_cons_zero, List.set_cons_succ]
            refine wpAnyL_ready (rs := [20]) (by kernel_rfl) (by simp) ?_
            refine AllReadyL.cons (o := { dst := some 26, op := Go.Op.nilCheck (Go.Operand.tmp 6), type := 0, pos := "resv.go:34", after := #[{ on := 0, ground := Go.Ground.data }, { on := 0, ground := Go.Ground.phase }, { on := 1, ground := Go.Ground.phase }, { on := 2, ground := Go.Ground.phase }, { on := 3, ground := Go.Ground.phase }, { on := 4, ground := Go.Ground.phase }, { on := 5, ground := Go.Ground.phase }, { on := 6, ground := Go.Ground.phase }, { on := 7, ground := Go.Ground.phase }, { on := 8, ground := Go.Ground.phase }, { on := 9, ground := Go.Ground.phase }, { on := 10, ground := Go.Ground.phase }, { on := 11, ground := Go.Ground.phase }, { on := 12, ground := Go.Ground.phase }, { on := 13, ground := Go.Ground.phase }, { on := 14, ground := Go.Ground.phase }, { on := 15, ground := Go.Ground.phase }, { on := 16, ground := Go.Ground.phase }, { on := 17, ground := Go.Ground.phase }, { on := 18, ground := Go.Ground.phase }, { on := 19, ground := Go.Ground.phase }], guard := none }) rfl (fun K hK => ?_) ?_
            · go_simp
              refine hK.out _ _ (.inr (by (refine sT ?_ hc0 fz HY.out; (repeat (first | exact HK25.out | exact HK22.out | exact HK14.out | exact Keep.refl _ _ | refine Keep.drew ?_ | refine Keep.drewN ?_ _ | refine Keep.alloc ?_ _ | refine Keep.setNew ?_ (by omega) _)); done))) (fun hS20 => ?_)
              replace hS20 := hS20.resolve_left (by decide)
              try simp only [Act.put, List.setIfInBounds_toArray, List.set_cons_zero, List.set_cons_succ]
              refine wpAnyL_take 21 (oi := { dst := some 27, op := Go.Op.fieldAddr 64 (Go.Operand.tmp 26) 0, type := 0, pos := "resv.go:34", after := #[{ on := 20, ground := Go.Ground.data }, { on := 0, ground := Go.Ground.phase }, { on := 1, ground := Go.Ground.phase }, { on := 2, ground := Go.Ground.phase }, { on := 3, ground := Go.Ground.phase }, { on := 4, ground := Go.Ground.phase }, { on := 5, ground := Go.Ground.phase }, { on := 6, ground := Go.Ground.phase }, { on := 7, ground := Go.Ground.phase }, { on := 8, ground := Go.Ground.phase }, { on := 9, ground := Go.Ground.phase }, { on := 10, ground := Go.Ground.phase }, { on := 11, ground := Go.Ground.phase }, { on := 12, ground := Go.Ground.phase }, { on := 13, ground := Go.Ground.phase }, { on := 14, ground := Go.Ground.phase }, { on := 15, ground := Go.Ground.phase }, { on := 16, ground := Go.Ground.phase }, { on := 17, ground := Go.Ground.phase }, { on := 18, ground := Go.Ground.phase }, { on := 19, ground := Go.Ground.phase }], guard := none }) (v := ?_) rfl (by kernel_rfl) (by kernel_rfl) (by kernel_rfl) (by kernel_rfl) (fun _ _ _ h => h) (Or.inl ⟨by rfl, ?_⟩) (by assumption) ?_
              rotate_left
              · (intro w hSw; (try dsimp only at hSw); go_split_ands; go_simp; try (with_reducible rfl))
              simp only [Act.put, List.setIfInBounds_toArray, List.set_cons_zero, List.set_cons_succ]
              refine wpAnyL_ready (rs := [22]) (by kernel_rfl) (by simp) ?_
              refine AllReadyL.cons (o := { dst := none, op := Go.Op.store 28 (Go.Operand.tmp 27) (Go.Operand.tmp 25), type := 0, pos := "resv.go:34", after := #[{ on := 21, ground := Go.Ground.data }, { on := 19, ground := Go.Ground.data }, { on := 19, ground := Go.Ground.chain }, { on := 0, ground := Go.Ground.phase }, { on := 1, ground := Go.Ground.phase }, { on := 2, ground := Go.Ground.phase }, { on := 3, ground := Go.Ground.phase }, { on := 4, ground := Go.Ground.phase }, { on := 5, ground := Go.Ground.phase }, { on := 6, ground := Go.Ground.phase }, { on := 7, ground := Go.Ground.phase }, { on := 8, ground := Go.Ground.phase }, { on := 9, ground := Go.Ground.phase }, { on := 10, ground := Go.Ground.phase }, { on := 11, ground := Go.Ground.phase }, { on := 12, ground := Go.Ground.phase }, { on := 13, ground := Go.Ground.phase }, { on := 14, ground := Go.Ground.phase }, { on := 15, ground := Go.Ground.phase }, { on := 16, ground := Go.Ground.phase }, { on := 17, ground := Go.Ground.phase }, { on := 18, ground := Go.Ground.phase }, { on := 19, ground := Go.Ground.phase }], guard := none }) rfl (fun K hK => ?_) ?_
              · go_simp
                refine hK.out _ _ (.inl rfl) (fun _ => ?_)
                try simp only [Act.put, List.setIfInBounds_toArray, List.set_cons_zero, List.set_cons_succ]
                refine wpAnyL_done (by kernel_rfl) ?_ _
                refine NoPanic.normal ?_
                have hq := put_mov HR1.out hk (by omega) HK25.out HO25.out
                go_wp2
                go_end0
                exact ⟨rfl, _, hq.1, (KW.out.mono (fun _ _ h => h.elim)).trans hq.2.1, fun z hz => by have := hq.2.2 z hz; omega⟩
              exact AllReadyL.nil
            exact AllReadyL.nil
          exact AllReadyL.nil
        exact AllReadyL.nil
      refine AllReadyL.cons (o := { dst := some 24, op := Go.Op.buildSlice 28 1 #[(0, Go.Operand.tmp 23)], type := 28, pos := "resv.go:34", after := #[{ on := 17, ground := Go.Ground.data }], guard := none }) rfl (fun K hK => ?_) ?_
      · go_simp
        refine hK.out _ _ (.inr (by (refine sT ?_ hc0 fz HY.out; (repeat (first | exact HK25.out | exact HK22.out | exact HK14.out | exact Keep.refl _ _ | refine Keep.drew ?_ | refine Keep.drewN ?_ _ | refine Keep.alloc ?_ _ | refine Keep.setNew ?_ (by omega) _)); done))) (fun hS17 => ?_)
        replace hS17 := hS17.resolve_left (by decide)
        try simp only [Act.put, List.setIfInBounds_toArray, List.set_cons_zero, List.set_cons_succ]
        refine wpAnyL_ready (rs := [16]) (by kernel_rfl) (by simp) ?_
        refine AllReadyL.cons (o := { dst := some 22, op := Go.Op.call { callee := Go.Callee.builtin Go.Builtin.append, args := #[Go.Operand.tmp 14, Go.Operand.tmp 21], argTypes := #[28, 28] }, type := 28, pos := "resv.go:34", after := #[{ on := 8, ground := Go.Ground.data }, { on := 15, ground := Go.Ground.data }, { on := 8, ground := Go.Ground.chain }], guard := none }) rfl (fun K hK => ?_) ?_
        · refine step_app et28 (by rfl) (.tmp 14) (.tmp 21) (by rfl) w1.heap.size v14 _ _ (by rfl) (by first | exact HO14.out | exact HO14.out.alloc _ | fail) vhi (L.length - (k + 1)) (rvE.cs (L.drop (k + 1))) (by rfl) (RHI.out.keep (S := fun _ => False) (by (repeat (first | exact HK14.out | exact Keep.refl _ _ | refine Keep.drew ?_ | refine Keep.drewN ?_ _ | refine Keep.alloc ?_ _ | refine Keep.setNew ?_ (by omega) _)); done) (fun _ _ _ _ => id)) (rvE.cs_one_cell _) (by unfold maxLen; omega) (by omega) (by have := HK14.out.size; simp <;> omega) ?_
          intro v22 w22 ho22 hg22
          have HK22 : Hid (Keep (fun _ => False) w1 w22) := Keep.grown (by (repeat (first | exact HK14.out | exact Keep.refl _ _ | refine Keep.drew ?_ | refine Keep.drewN ?_ _ | refine Keep.alloc ?_ _ | refine Keep.setNew ?_ (by omega) _)); done) hg22 (fun x h1 h2 => by have := (HO14.out.lt x h1).1; omega)
          have HO22 := Lib.hid ho22
          have HG22 := Lib.hid hg22
          clear ho22 hg22
          refine hK.out _ _ (.inr (by (refine sT ?_ hc0 fz HY.out; (repeat (first | exact HK25.out | exact HK22.out | exact HK14.out | exact Keep.refl _ _ | refine Keep.drew ?_ | refine Keep.drewN ?_ _ | refine Keep.alloc ?_ _ | refine Keep.setNew ?_ (by omega) _)); done))) (fun hS18 => ?_)
          replace hS18 := hS18.resolve_left (by decide)
          try simp only [Act.put, List.setIfInBounds_toArray, List.set_cons_zero, List.set_cons_succ]
          refine wpAnyL_ready (rs := [19]) (by kernel_rfl) (by simp) ?_
          refine AllReadyL.cons (o := { dst := some 25, op := Go.Op.call { callee := Go.Callee.builtin Go.Builtin.append, args := #[Go.Operand.tmp 22, Go.Operand.tmp 24], argTypes := #[28, 28] }, type := 28, pos := "resv.go:34", after := #[{ on := 16, ground := Go.Ground.data }, { on := 18, ground := Go.Ground.data }, { on := 16, ground := Go.Ground.chain }], guard := none }) rfl (fun K hK => ?_) ?_
          · refine step_app et28 (by rfl) (.tmp 22) (.tmp 24) (by rfl) w1.heap.size v22 _ _ (by rfl) (by first | exact HO22.out | exact HO22.out.alloc _ | fail) _ 1 [.int .i64 y.s, .int .i64 y.p, .int .i64 y.f, .int .u8 y.b] (by rfl) (by refine Reads.new (e := 31) (z := (0, 0)) ?_ rfl _; first | (simp only [heap_alloc_at, heap_drewN, heap_drew, World.size_alloc, Nat.left_eq_add, Nat.add_eq_left, Nat.reduceEqDiff, reduceIte, Nat.succ_ne_self, Nat.add_left_cancel_iff]; done) | (refine (HG22.out.block _ ?_ ?_).trans ?_; (first | (simp only [heap_alloc_at, heap_drewN, heap_drew, World.size_alloc, Nat.left_eq_add, Nat.add_eq_left, Nat.reduceEqDiff, reduceIte, Nat.succ_ne_self, Nat.add_left_cancel_iff]; done) | (simp only [World.size_alloc, World.size_drew, heap_drewN]; omega) | (simp; done) | (simp; omega) | (dsimp only; simp only [heap_drew, heap_drewN, World.size_alloc]; omega) | omega | (trace_state; fail)); (first | (intro hh; have := (HO14.out.lt _ hh.symm).2; simp at this; done) | (intro hh; have := (HO14.out.lt _ hh.symm).2; omega) | (exact ne_new HW14.out (by omega) (by omega))); (first | (simp only [heap_alloc_at, heap_drewN, heap_drew, World.size_alloc, Nat.left_eq_add, Nat.add_eq_left, Nat.reduceEqDiff, reduceIte, Nat.succ_ne_self, Nat.add_left_cancel_iff]; done) | (refine (HG14.out.block _ ?_ ?_).trans ?_; (first | (simp only [heap_alloc_at, heap_drewN, heap_drew, World.size_alloc, Nat.left_eq_add, Nat.add_eq_left, Nat.reduceEqDiff, reduceIte, Nat.succ_ne_self, Nat.add_left_cancel_iff]; done) | (simp only [World.size_alloc, World.size_drew, heap_drewN]; omega) | (simp; done) | (simp; omega) | (dsimp only; simp only [heap_drew, heap_drewN, World.size_alloc]; omega) | omega | (trace_state; fail)); (first | (exact ne_lit (by omega)) | (simp [Value.ownBlock, Act.eval]; done) | (simp [Value.ownBlock]; omega) | (show some _ ≠ some _; intro hh; injection hh; omega)); (simp only [heap_alloc_at, heap_drewN, heap_drew, World.size_alloc, Nat.left_eq_add, Nat.add_eq_left, Nat.reduceEqDiff, reduceIte, Nat.succ_ne_self, Nat.add_left_cancel_iff]; done))))) (by simp [Value.oneCell']) (by unfold maxLen; omega) (by omega) (by have := HK22.out.size; simp <;> omega) ?_
            intro v25 w25 ho25 hg25
            obtain ⟨a25, l25, c25, rfl⟩ := own_slice ho25
            have HK25 : Hid (Keep (fun _ => False) w1 w25) := Keep.grown (by (repeat (first | exact HK22.out | exact Keep.refl _ _ | refine Keep.drew ?_ | refine Keep.drewN ?_ _ | refine Keep.alloc ?_ _ | refine Keep.setNew ?_ (by omega) _)); done) hg25 (fun x h1 h2 => by have := (HO22.out.lt x h1).1; omega)
            have HO25 := Lib.hid ho25
            clear ho25 hg25
            refine hK.out _ _ (.inr (by (refine sT ?_ hc0 fz HY.out; (repeat (first | exact HK25.out | exact HK22.out | exact HK14.out | exact Keep.refl _ _ | refine Keep.drew ?_ | refine Keep.drewN ?_ _ | refine Keep.alloc ?_ _ | refine Keep.setNew ?_ (by omega) _)); done))) (fun hS19 => ?_)
            replace hS19 := hS19.resolve_left (by decide)
            try simp only [Act.put, List.setIfInBounds_toArray, List.set_cons_zero, List.set_cons_succ]
            refine wpAnyL_ready (rs := [20]) (by kernel_rfl) (by simp) ?_
            refine AllReadyL.cons (o := { dst := some 26, op := Go.Op.nilCheck (Go.Operand.tmp 6), type := 0, pos := "resv.go:34", after := #[{ on := 0, ground := Go.Ground.data }, { on := 0, ground := Go.Ground.phase }, { on := 1, ground := Go.Ground.phase }, { on := 2, ground := Go.Ground.phase }, { on := 3, ground := Go.Ground.phase }, { on := 4, ground := Go.Ground.phase }, { on := 5, ground := Go.Ground.phase }, { on := 6, ground := Go.Ground.phase }, { on := 7, ground := Go.Ground.phase }, { on := 8, ground := Go.Ground.phase }, { on := 9, ground := Go.Ground.phase }, { on := 10, ground := Go.Ground.phase }, { on := 11, ground := Go.Ground.phase }, { on := 12, ground := Go.Ground.phase }, { on := 13, ground := Go.Ground.phase }, { on := 14, ground := Go.Ground.phase }, { on := 15, ground := Go.Ground.phase }, { on := 16, ground := Go.Ground.phase }, { on := 17, ground := Go.Ground.phase }, { on := 18, ground := Go.Ground.phase }, { on := 19, ground := Go.Ground.phase }], guard := none }) rfl (fun K hK => ?_) ?_
            · go_simp
              refine hK.out _ _ (.inr (by (refine sT ?_ hc0 fz HY.out; (repeat (first | exact HK25.out | exact HK22.out | exact HK14.out | exact Keep.refl _ _ | refine Keep.drew ?_ | refine Keep.drewN ?_ _ | refine Keep.alloc ?_ _ | refine Keep.setNew ?_ (by omega) _)); done))) (fun hS20 => ?_)
              replace hS20 := hS20.resolve_left (by decide)
              try simp only [Act.put, List.setIfInBounds_toArray, List.set_cons_zero, List.set_cons_succ]
              refine wpAnyL_take 21 (oi := { dst := some 27, op := Go.Op.fieldAddr 64 (Go.Operand.tmp 26) 0, type := 0, pos := "resv.go:34", after := #[{ on := 20, ground := Go.Ground.data }, { on := 0, ground := Go.Ground.phase }, { on := 1, ground := Go.Ground.phase }, { on := 2, ground := Go.Ground.phase }, { on := 3, ground := Go.Ground.phase }, { on := 4, ground := Go.Ground.phase }, { on := 5, ground := Go.Ground.phase }, { on := 6, ground := Go.Ground.phase }, { on := 7, ground := Go.Ground.phase }, { on := 8, ground := Go.Ground.phase }, { on := 9, ground := Go.Ground.phase }, { on := 10, ground := Go.Ground.phase }, { on := 11, ground := Go.Ground.phase }, { on := 12, ground := Go.Ground.phase }, { on := 13, ground := Go.Ground.phase }, { on := 14, ground := Go.Ground.phase }, { on := 15, ground := Go.Ground.phase }, { on := 16, ground := Go.Ground.phase }, { on := 17, ground := Go.Ground.phase }, { on := 18, ground := Go.Ground.phase }, { on := 19, ground := Go.Ground.phase }], guard := none }) (v := ?_) rfl (by kernel_rfl) (by kernel_rfl) (by kernel_rfl) (by kernel_rfl) (fun _ _ _ h => h) (Or.inl ⟨by rfl, ?_⟩) (by assumption) ?_
              rotate_left
              · (intro w hSw; (try dsimp only at hSw); go_split_ands; go_simp; try (with_reducible rfl))
              simp only [Act.put, List.setIfInBounds_toArray, List.set_cons_zero, List.set_cons_succ]
              refine wpAnyL_ready (rs := [22]) (by kernel_rfl) (by simp) ?_
              refine AllReadyL.cons (o := { dst := none, op := Go.Op.store 28 (Go.Operand.tmp 27) (Go.Operand.tmp 25), type := 0, pos := "resv.go:34", after := #[{ on := 21, ground := Go.Ground.data }, { on := 19, ground := Go.Ground.data }, { on := 19, ground := Go.Ground.chain }, { on := 0, ground := Go.Ground.phase }, { on := 1, ground := Go.Ground.phase }, { on := 2, ground := Go.Ground.phase }, { on := 3, ground := Go.Ground.phase }, { on := 4, ground := Go.Ground.phase }, { on := 5, ground := Go.Ground.phase }, { on := 6, ground := Go.Ground.phase }, { on := 7, ground := Go.Ground.phase }, { on := 8, ground := Go.Ground.phase }, { on := 9, ground := Go.Ground.phase }, { on := 10, ground := Go.Ground.phase }, { on := 11, ground := Go.Ground.phase }, { on := 12, ground := Go.Ground.phase }, { on := 13, ground := Go.Ground.phase }, { on := 14, ground := Go.Ground.phase }, { on := 15, ground := Go.Ground.phase }, { on := 16, ground := Go.Ground.phase }, { on := 17, ground := Go.Ground.phase }, { on := 18, ground := Go.Ground.phase }, { on := 19, ground := Go.Ground.phase }], guard := none }) rfl (fun K hK => ?_) ?_
              · go_simp
                refine hK.out _ _ (.inl rfl) (fun _ => ?_)
                try simp only [Act.put, List.setIfInBounds_toArray, List.set_cons_zero, List.set_cons_succ]
                refine wpAnyL_done (by kernel_rfl) ?_ _
                refine NoPanic.normal ?_
                have hq := put_mov HR1.out hk (by omega) HK25.out HO25.out
                go_wp2
                go_end0
                exact ⟨rfl, _, hq.1, (KW.out.mono (fun _ _ h => h.elim)).trans hq.2.1, fun z hz => by have := hq.2.2 z hz; omega⟩
              exact AllReadyL.nil
            exact AllReadyL.nil
          exact AllReadyL.nil
        exact AllReadyL.nil
      exact AllReadyL.nil
    refine AllReadyL.cons (o := { dst := some 24, op := Go.Op.buildSlice 28 1 #[(0, Go.Operand.tmp 23)], type := 28, pos := "resv.go:34", after := #[{ on := 17, ground := Go.Ground.data }], guard := none }) rfl (fun K hK => ?_) ?_
    · go_simp
      refine hK.out _ _ (.inr (by (refine sT ?_ hc0 fz HY.out; (repeat (first | exact HK25.out | exact HK22.out | exact HK14.out | exact Keep.refl _ _ | refine Keep.drew ?_ | refine Keep.drewN ?_ _ | refine Keep.alloc ?_ _ | refine Keep.setNew ?_ (by omega) _)); done))) (fun hS16 => ?_)
      replace hS16 := hS16.resolve_left (by decide)
      try simp only [Act.put, List.setIfInBounds_toArray, List.set_cons_zero, List.set_cons_succ]
      refine wpAnyL_ready (rs := [8]) (by kernel_rfl) (by simp) ?_
      refine AllReadyL.cons (o := { dst := some 14, op := Go.Op.call { callee := Go.Callee.builtin Go.Builtin.append, args := #[Go.Operand.tmp 7, Go.Operand.tmp 13], argTypes := #[28, 28] }, type := 28, pos := "resv.go:34", after := #[{ on := 1, ground := Go.Ground.data }, { on := 7, ground := Go.Ground.data }], guard := none }) rfl (fun K hK => ?_) ?_
      · refine step_appG et28 (by rfl) (.tmp 7) (.tmp 13) (by rfl) w1.heap.size _ 0 [] (by rfl) (own_empty_at (by simp only [heap_alloc_at, heap_drewN, heap_drew, World.size_alloc, Nat.left_eq_add, Nat.add_eq_left, Nat.reduceEqDiff, reduceIte, Nat.succ_ne_self, Nat.add_left_cancel_iff]) (by simp)) vlo k (rvE.cs (L.take k)) (by rfl) (RLO.out.keep (S := fun _ => False) (by (repeat (first | exact Keep.refl _ _ | exact Keep.refl _ _ | refine Keep.drew ?_ | refine Keep.drewN ?_ _ | refine Keep.alloc ?_ _ | refine Keep.setNew ?_ (by omega) _)); done) (fun _ _ _ _ => id)) (rvE.cs_one_cell _) (by unfold maxLen; omega) (by omega) (by simp <;> omega) ?_
        intro v14 w14 ho14 hg14 hw14
        try simp only [heap_drew, heap_drewN, World.size_alloc] at hw14
        have HW14 := Lib.hid hw14
        clear hw14
        have HK14 : Hid (Keep (fun _ => False) w1 w14) := Keep.grown (by (repeat (first | exact Keep.refl _ _ | exact Keep.refl _ _ | refine Keep.drew ?_ | refine Keep.drewN ?_ _ | refine Keep.alloc ?_ _ | refine Keep.setNew ?_ (by omega) _)); done) hg14 (fun x h1 h2 => by simp [Value.ownBlock] at h1; omega)
        have HO14 := Lib.hid ho14
        have HG14 := Lib.hid hg14
        have hz14 := hg14.size
        try simp at hz14
        clear ho14 hg14
        refine hK.out _ _ (.inr (by (refine sT ?_ hc0 fz HY.out; (repeat (first | exact HK25.out | exact HK22.out | exact HK14.out | exact Keep.refl _ _ | refine Keep.drew ?_ | refine Keep.drewN ?_ _ | refine Keep.alloc ?_ _ | refine Keep.setNew ?_ (by omega) _)); done))) (fun hS17 => ?_)
        replace hS17 := hS17.resolve_left (by decide)
        try simp only [Act.put, List.setIfInBounds_toArray, List.set_cons_zero, List.set_cons_succ]
        refine wpAnyL_ready (rs := [16]) (by kernel_rfl) (by simp) ?_
        refine AllReadyL.cons (o := { dst := some 22, op := Go.Op.call { callee := Go.Callee.builtin Go.Builtin.append, args := #[Go.Operand.tmp 14, Go.Operand.tmp 21], argTypes := #[28, 28] }, type := 28, pos := "resv.go:34", after := #[{ on := 8, ground := Go.Ground.data }, { on := 15, ground := Go.Ground.data }, { on := 8, ground := Go.Ground.chain }], guard := none }) rfl (fun K hK => ?_) ?_
        · refine step_app et28 (by rfl) (.tmp 14) (.tmp 21) (by rfl) w1.heap.size v14 _ _ (by rfl) (by first | exact HO14.out | exact HO14.out.alloc _ | fail) vhi (L.length - (k + 1)) (rvE.cs (L.drop (k + 1))) (by rfl) (RHI.out.keep (S := fun _ => False) (by (repeat (first | exact HK14.out | exact Keep.refl _ _ | refine Keep.drew ?_ | refine Keep.drewN ?_ _ | refine Keep.alloc ?_ _ | refine Keep.setNew ?_ (by omega) _)); done) (fun _ _ _ _ => id)) (rvE.cs_one_cell _) (by unfold maxLen; omega) (by omega) (by have := HK14.out.size; simp <;> omega) ?_
          intro v22 w22 ho22 hg22
          have HK22 : Hid (Keep (fun _ => False) w1 w22) := Keep.grown (by (repeat (first | exact HK14.out | exact Keep.refl _ _ | refine Keep.drew ?_ | refine Keep.drewN ?_ _ | refine Keep.alloc ?_ _ | refine Keep.setNew ?_ (by omega) _)); done) hg22 (fun x h1 h2 => by have := (HO14.out.lt x h1).1; omega)
          have HO22 := Lib.hid ho22
          have HG22 := Lib.hid hg22
          clear ho22 hg22
          refine hK.out _ _ (.inr (by (refine sT ?_ hc0 fz HY.out; (repeat (first | exact HK25.out | exact HK22.out | exact HK14.out | exact Keep.refl _ _ | refine Keep.drew ?_ | refine Keep.drewN ?_ _ | refine Keep.alloc ?_ _ | refine Keep.setNew ?_ (by omega) _)); done))) (fun hS18 => ?_)
          replace hS18 := hS18.resolve_left (by decide)
          try simp only [Act.put, List.setIfInBounds_toArray, List.set_cons_zero, List.set_cons_succ]
          refine wpAnyL_ready (rs := [19]) (by kernel_rfl) (by simp) ?_
          refine AllReadyL.cons (o := { dst := some 25, op := Go.Op.call { callee := Go.Callee.builtin Go.Builtin.append, args := #[Go.Operand.tmp 22, Go.Operand.tmp 24], argTypes := #[28, 28] }, type := 28, pos := "resv.go:34", after := #[{ on := 16, ground := Go.Ground.data }, { on := 18, ground := Go.Ground.data }, { on := 16, ground := Go.Ground.chain }], guard := none }) rfl (fun K hK => ?_) ?_
          · refine step_app et28 (by rfl) (.tmp 22) (.tmp 24) (by rfl) w1.heap.size v22 _ _ (by rfl) (by first | exact HO22.out | exact HO22.out.alloc _ | fail) _ 1 [.int .i64 y.s, .int .i64 y.p, .int .i64 y.f, .int .u8 y.b] (by rfl) (by refine Reads.new (e := 31) (z := (0, 0)) ?_ rfl _; first | (simp only [heap_alloc_at, heap_drewN, heap_drew, World.size_alloc, Nat.left_eq_add, Nat.add_eq_left, Nat.reduceEqDiff, reduceIte, Nat.succ_ne_self, Nat.add_left_cancel_iff]; done) | (refine (HG22.out.block _ ?_ ?_).trans ?_; (first | (simp only [heap_alloc_at, heap_drewN, heap_drew, World.size_alloc, Nat.left_eq_add, Nat.add_eq_left, Nat.reduceEqDiff, reduceIte, Nat.succ_ne_self, Nat.add_left_cancel_iff]; done) | (simp only [World.size_alloc, World.size_drew, heap_drewN]; omega) | (simp; done) | (simp; omega) | (dsimp only; simp only [heap_drew, heap_drewN, World.size_alloc]; omega) | omega | (trace_state; fail)); (first | (intro hh; have := (HO14.out.lt _ hh.symm).2; simp at this; done) | (intro hh; have := (HO14.out.lt _ hh.symm).2; omega) | (exact ne_new HW14.out (by omega) (by omega))); (first | (simp only [heap_alloc_at, heap_drewN, heap_drew, World.size_alloc, Nat.left_eq_add, Nat.add_eq_left, Nat.reduceEqDiff, reduceIte, Nat.succ_ne_self, Nat.add_left_cancel_iff]; done) | (refine (HG14.out.block _ ?_ ?_).trans ?_; (first | (simp only [heap_alloc_at, heap_drewN, heap_drew, World.size_alloc, Nat.left_eq_add, Nat.add_eq_left, Nat.reduceEqDiff, reduceIte, Nat.succ_ne_self, Nat.add_left_cancel_iff]; done) | (simp only [World.size_alloc, World.size_drew, heap_drewN]; omega) | (simp; done) | (simp; omega) | (dsimp only; simp only [heap_drew, heap_drewN, World.size_alloc]; omega) | omega | (trace_state; fail)); (first | (exact ne_lit (by omega)) | (simp [Value.ownBlock, Act.eval]; done) | (simp [Value.ownBlock]; omega) | (show some _ ≠ some _; intro hh; injection hh; omega)); (simp only [heap_alloc_at, heap_drewN, heap_drew, World.size_alloc, Nat.left_eq_add, Nat.add_eq_left, Nat.reduceEqDiff, reduceIte, Nat.succ_ne_self, Nat.add_left_cancel_iff]; done))))) (by simp [Value.oneCell']) (by unfold maxLen; omega) (by omega) (by have := HK22.out.size; simp <;> omega) ?_
            intro v25 w25 ho25 hg25
            obtain ⟨a25, l25, c25, rfl⟩ := own_slice ho25
            have HK25 : Hid (Keep (fun _ => False) w1 w25) := Keep.grown (by (repeat (first | exact HK22.out | exact Keep.refl _ _ | refine Keep.drew ?_ | refine Keep.drewN ?_ _ | refine Keep.alloc ?_ _ | refine Keep.setNew ?_ (by omega) _)); done) hg25 (fun x h1 h2 => by have := (HO22.out.lt x h1).1; omega)
            have HO25 := Lib.hid ho25
            clear ho25 hg25
            refine hK.out _ _ (.inr (by (refine sT ?_ hc0 fz HY.out; (repeat (first | exact HK25.out | exact HK22.out | exact HK14.out | exact Keep.refl _ _ | refine Keep.drew ?_ | refine Keep.drewN ?_ _ | refine Keep.alloc ?_ _ | refine Keep.setNew ?_ (by omega) _)); done))) (fun hS19 => ?_)
            replace hS19 := hS19.resolve_left (by decide)
            try simp only [Act.put, List.setIfInBounds_toArray, List.set_cons_zero, List.set_cons_succ]
            refine wpAnyL_ready (rs := [20]) (by kernel_rfl) (by simp) ?_
            refine AllReadyL.cons (o := { dst := some 26, op := Go.Op.nilCheck (Go.Operand.tmp 6), type := 0, pos := "resv.go:34", after := #[{ on := 0, ground := Go.Ground.data }, { on := 0, ground := Go.Ground.phase }, { on := 1, ground := Go.Ground.phase }, { on := 2, ground := Go.Ground.phase }, { on := 3, ground := Go.Ground.phase }, { on := 4, ground := Go.Ground.phase }, { on := 5, ground := Go.Ground.phase }, { on := 6, ground := Go.Ground.phase }, { on := 7, ground := Go.Ground.phase }, { on := 8, ground := Go.Ground.phase }, { on := 9, ground := Go.Ground.phase }, { on := 10, ground := Go.Ground.phase }, { on := 11, ground := Go.Ground.phase }, { on := 12, ground := Go.Ground.phase }, { on := 13, ground := Go.Ground.phase }, { on := 14, ground := Go.Ground.phase }, { on := 15, ground := Go.Ground.phase }, { on := 16, ground := Go.Ground.phase }, { on := 17, ground := Go.Ground.phase }, { on := 18, ground := Go.Ground.phase }, { on := 19, ground := Go.Ground.phase }], guard := none }) rfl (fun K hK => ?_) ?_
            · go_simp
              refine hK.out _ _ (.inr (by (refine sT ?_ hc0 fz HY.out; (repeat (first | exact HK25.out | exact HK22.out | exact HK14.out | exact Keep.refl _ _ | refine Keep.drew ?_ | refine Keep.drewN ?_ _ | refine Keep.alloc ?_ _ | refine Keep.setNew ?_ (by omega) _)); done))) (fun hS20 => ?_)
              replace hS20 := hS20.resolve_left (by decide)
              try simp only [Act.put, List.setIfInBounds_toArray, List.set_cons_zero, List.set_cons_succ]
              refine wpAnyL_take 21 (oi := { dst := some 27, op := Go.Op.fieldAddr 64 (Go.Operand.tmp 26) 0, type := 0, pos := "resv.go:34", after := #[{ on := 20, ground := Go.Ground.data }, { on := 0, ground := Go.Ground.phase }, { on := 1, ground := Go.Ground.phase }, { on := 2, ground := Go.Ground.phase }, { on := 3, ground := Go.Ground.phase }, { on := 4, ground := Go.Ground.phase }, { on := 5, ground := Go.Ground.phase }, { on := 6, ground := Go.Ground.phase }, { on := 7, ground := Go.Ground.phase }, { on := 8, ground := Go.Ground.phase }, { on := 9, ground := Go.Ground.phase }, { on := 10, ground := Go.Ground.phase }, { on := 11, ground := Go.Ground.phase }, { on := 12, ground := Go.Ground.phase }, { on := 13, ground := Go.Ground.phase }, { on := 14, ground := Go.Ground.phase }, { on := 15, ground := Go.Ground.phase }, { on := 16, ground := Go.Ground.phase }, { on := 17, ground := Go.Ground.phase }, { on := 18, ground := Go.Ground.phase }, { on := 19, ground := Go.Ground.phase }], guard := none }) (v := ?_) rfl (by kernel_rfl) (by kernel_rfl) (by kernel_rfl) (by kernel_rfl) (fun _ _ _ h => h) (Or.inl ⟨by rfl, ?_⟩) (by assumption) ?_
              rotate_left
              · (intro w hSw; (try dsimp only at hSw); go_split_ands; go_simp; try (with_reducible rfl))
              simp only [Act.put, List.setIfInBounds_toArray, List.set_cons_zero, List.set_cons_succ]
              refine wpAnyL_ready (rs := [22]) (by kernel_rfl) (by simp) ?_
              refine AllReadyL.cons (o := { dst := none, op := Go.Op.store 28 (Go.Operand.tmp 27) (Go.Operand.tmp 25), type := 0, pos := "resv.go:34", after := #[{ on := 21, ground := Go.Ground.data }, { on := 19, ground := Go.Ground.data }, { on := 19, ground := Go.Ground.chain }, { on := 0, ground := Go.Ground.phase }, { on := 1, ground := Go.Ground.phase }, { on := 2, ground := Go.Ground.phase }, { on := 3, ground := Go.Ground.phase }, { on := 4, ground := Go.Ground.phase }, { on := 5, ground := Go.Ground.phase }, { on := 6, ground := Go.Ground.phase }, { on := 7, ground := Go.Ground.phase }, { on := 8, ground := Go.Ground.phase }, { on := 9, ground := Go.Ground.phase }, { on := 10, ground := Go.Ground.phase }, { on := 11, ground := Go.Ground.phase }, { on := 12, ground := Go.Ground.phase }, { on := 13, ground := Go.Ground.phase }, { on := 14, ground := Go.Ground.phase }, { on := 15, ground := Go.Ground.phase }, { on := 16, ground := Go.Ground.phase }, { on := 17, ground := Go.Ground.phase }, { on := 18, ground := Go.Ground.phase }, { on := 19, ground := Go.Ground.phase }], guard := none }) rfl (fun K hK => ?_) ?_
              · go_simp
                refine hK.out _ _ (.inl rfl) (fun _ => ?_)
                try simp only [Act.put, List.setIfInBounds_toArray, List.set_cons_zero, List.set_cons_succ]
                refine wpAnyL_done (by kernel_rfl) ?_ _
                refine NoPanic.normal ?_
                have hq := put_mov HR1.out hk (by omega) HK25.out HO25.out
                go_wp2
                go_end0
                exact ⟨rfl, _, hq.1, (KW.out.mono (fun _ _ h => h.elim)).trans hq.2.1, fun z hz => by have := hq.2.2 z hz; omega⟩
              exact AllReadyL.nil
            exact AllReadyL.nil
          exact AllReadyL.nil
        exact AllReadyL.nil
      exact AllReadyL.nil
    exact AllReadyL.nil
  refine AllReadyL.cons (o := { dst := some 24, op := Go.Op.buildSlice 28 1 #[(0, Go.Operand.tmp 23)], type := 28, pos := "resv.go:34", after := #[{ on := 17, ground := Go.Ground.data }], guard := none }) rfl (fun K hK => ?_) ?_
  · go_simp
    refine hK.out _ _ (.inr (by (refine sT ?_ hc0 fz HY.out; (repeat (first | exact HK25.out | exact HK22.out | exact HK14.out | exact Keep.refl _ _ | refine Keep.drew ?_ | refine Keep.drewN ?_ _ | refine Keep.alloc ?_ _ | refine Keep.setNew ?_ (by omega) _)); done))) (fun hS15 => ?_)
    replace hS15 := hS15.resolve_left (by decide)
    try simp only [Act.put, List.setIfInBounds_toArray, List.set_cons_zero, List.set_cons_succ]
    refine wpAnyL_ready (rs := [1]) (by kernel_rfl) (by simp) ?_
    refine AllReadyL.cons (o := { dst := some 7, op := Go.Op.buildSlice 28 0 #[], type := 28, pos := "resv.go:34", after := #[], guard := none }) rfl (fun K hK => ?_) ?_
    · go_simp
      refine hK.out _ _ (.inr (by (refine sT ?_ hc0 fz HY.out; (repeat (first | exact HK25.out | exact HK22.out | exact HK14.out | exact Keep.refl _ _ | refine Keep.drew ?_ | refine Keep.drewN ?_ _ | refine Keep.alloc ?_ _ | refine Keep.setNew ?_ (by omega) _)); done))) (fun hS16 => ?_)
      replace hS16 := hS16.resolve_left (by decide)
      try simp only [Act.put, List.setIfInBounds_toArray, List.set_cons_zero, List.set_cons_succ]
      refine wpAnyL_ready (rs := [8]) (by kernel_rfl) (by simp) ?_
      refine AllReadyL.cons (o := { dst := some 14, op := Go.Op.call { callee := Go.Callee.builtin Go.Builtin.append, args := #[Go.Operand.tmp 7, Go.Operand.tmp 13], argTypes := #[28, 28] }, type := 28, pos := "resv.go:34", after := #[{ on := 1, ground := Go.Ground.data }, { on := 7, ground := Go.Ground.data }], guard := none }) rfl (fun K hK => ?_) ?_
      · refine step_appG et28 (by rfl) (.tmp 7) (.tmp 13) (by rfl) w1.heap.size _ 0 [] (by rfl) (own_empty_at (by simp only [heap_alloc_at, heap_drewN, heap_drew, World.size_alloc, Nat.left_eq_add, Nat.add_eq_left, Nat.reduceEqDiff, reduceIte, Nat.succ_ne_self, Nat.add_left_cancel_iff]) (by simp)) vlo k (rvE.cs (L.take k)) (by rfl) (RLO.out.keep (S := fun _ => False) (by (repeat (first | exact Keep.refl _ _ | exact Keep.refl _ _ | refine Keep.drew ?_ | refine Keep.drewN ?_ _ | refine Keep.alloc ?_ _ | refine Keep.setNew ?_ (by omega) _)); done) (fun _ _ _ _ => id)) (rvE.cs_one_cell _) (by unfold maxLen; omega) (by omega) (by simp <;> omega) ?_
        intro v14 w14 ho14 hg14 hw14
        try simp only [heap_drew, heap_drewN, World.size_alloc] at hw14
        have HW14 := Lib.hid hw14
        clear hw14
        have HK14 : Hid (Keep (fun _ => False) w1 w14) := Keep.grown (by (repeat (first | exact Keep.refl _ _ | exact Keep.refl _ _ | refine Keep.drew ?_ | refine Keep.drewN ?_ _ | refine Keep.alloc ?_ _ | refine Keep.setNew ?_ (by omega) _)); done) hg14 (fun x h1 h2 => by simp [Value.ownBlock] at h1; omega)
        have HO14 := Lib.hid ho14
        have HG14 := Lib.hid hg14
        have hz14 := hg14.size
        try simp at hz14
        clear ho14 hg14
        refine hK.out _ _ (.inr (by (refine sT ?_ hc0 fz HY.out; (repeat (first | exact HK25.out | exact HK22.out | exact HK14.out | exact Keep.refl _ _ | refine Keep.drew ?_ | refine Keep.drewN ?_ _ | refine Keep.alloc ?_ _ | refine Keep.setNew ?_ (by omega) _)); done))) (fun hS17 => ?_)
        replace hS17 := hS17.resolve_left (by decide)
        try simp only [Act.put, List.setIfInBounds_toArray, List.set_cons_zero, List.set_cons_succ]
        refine wpAnyL_ready (rs := [16]) (by kernel_rfl) (by simp) ?_
        refine AllReadyL.cons (o := { dst := some 22, op := Go.Op.call { callee := Go.Callee.builtin Go.Builtin.append, args := #[Go.Operand.tmp 14, Go.Operand.tmp 21], argTypes := #[28, 28] }, type := 28, pos := "resv.go:34", after := #[{ on := 8, ground := Go.Ground.data }, { on := 15, ground := Go.Ground.data }, { on := 8, ground := Go.Ground.chain }], guard := none }) rfl (fun K hK => ?_) ?_
        · refine step_app et28 (by rfl) (.tmp 14) (.tmp 21) (by rfl) w1.heap.size v14 _ _ (by rfl) (by first | exact HO14.out | exact HO14.out.alloc _ | fail) vhi (L.length - (k + 1)) (rvE.cs (L.drop (k + 1))) (by rfl) (RHI.out.keep (S := fun _ => False) (by (repeat (first | exact HK14.out | exact Keep.refl _ _ | refine Keep.drew ?_ | refine Keep.drewN ?_ _ | refine Keep.alloc ?_ _ | refine Keep.setNew ?_ (by omega) _)); done) (fun _ _ _ _ => id)) (rvE.cs_one_cell _) (by unfold maxLen; omega) (by omega) (by have := HK14.out.size; simp <;> omega) ?_
          intro v22 w22 ho22 hg22
          have HK22 : Hid (Keep (fun _ => False) w1 w22) := Keep.grown (by (repeat (first | exact HK14.out | exact Keep.refl _ _ | refine Keep.drew ?_ | refine Keep.drewN ?_ _ | refine Keep.alloc ?_ _ | refine Keep.setNew ?_ (by omega) _)); done) hg22 (fun x h1 h2 => by have := (HO14.out.lt x h1).1; omega)
          have HO22 := Lib.hid ho22
          have HG22 := Lib.hid hg22
          clear ho22 hg22
          refine hK.out _ _ (.inr (by (refine sT ?_ hc0 fz HY.out; (repeat (first | exact HK25.out | exact HK22.out | exact HK14.out | exact Keep.refl _ _ | refine Keep.drew ?_ | refine Keep.drewN ?_ _ | refine Keep.alloc ?_ _ | refine Keep.setNew ?_ (by omega) _)); done))) (fun hS18 => ?_)
          replace hS18 := hS18.resolve_left (by decide)
          try simp only [Act.put, List.setIfInBounds_toArray, List.set_cons_zero, List.set_cons_succ]
          refine wpAnyL_ready (rs := [19]) (by kernel_rfl) (by simp) ?_
          refine AllReadyL.cons (o := { dst := some 25, op := Go.Op.call { callee := Go.Callee.builtin Go.Builtin.append, args := #[Go.Operand.tmp 22, Go.Operand.tmp 24], argTypes := #[28, 28] }, type := 28, pos := "resv.go:34", after := #[{ on := 16, ground := Go.Ground.data }, { on := 18, ground := Go.Ground.data }, { on := 16, ground := Go.Ground.chain }], guard := none }) rfl (fun K hK => ?_) ?_
          · refine step_app et28 (by rfl) (.tmp 22) (.tmp 24) (by rfl) w1.heap.size v22 _ _ (by rfl) (by first | exact HO22.out | exact HO22.out.alloc _ | fail) _ 1 [.int .i64 y.s, .int .i64 y.p, .int .i64 y.f, .int .u8 y.b] (by rfl) (by refine Reads.new (e := 31) (z := (0, 0)) ?_ rfl _; first | (simp only [heap_alloc_at, heap_drewN, heap_drew, World.size_alloc, Nat.left_eq_add, Nat.add_eq_left, Nat.reduceEqDiff, reduceIte, Nat.succ_ne_self, Nat.add_left_cancel_iff]; done) | (refine (HG22.out.block _ ?_ ?_).trans ?_; (first | (simp only [heap_alloc_at, heap_drewN, heap_drew, World.size_alloc, Nat.left_eq_add, Nat.add_eq_left, Nat.reduceEqDiff, reduceIte, Nat.succ_ne_self, Nat.add_left_cancel_iff]; done) | (simp only [World.size_alloc, World.size_drew, heap_drewN]; omega) | (simp; done) | (simp; omega) | (dsimp only; simp only [heap_drew, heap_drewN, World.size_alloc]; omega) | omega | (trace_state; fail)); (first | (intro hh; have := (HO14.out.lt _ hh.symm).2; simp at this; done) | (intro hh; have := (HO14.out.lt _ hh.symm).2; omega) | (exact ne_new HW14.out (by omega) (by omega))); (first | (simp only [heap_alloc_at, heap_drewN, heap_drew, World.size_alloc, Nat.left_eq_add, Nat.add_eq_left, Nat.reduceEqDiff, reduceIte, Nat.succ_ne_self, Nat.add_left_cancel_iff]; done) | (refine (HG14.out.block _ ?_ ?_).trans ?_; (first | (simp only [heap_alloc_at, heap_drewN, heap_drew, World.size_alloc, Nat.left_eq_add, Nat.add_eq_left, Nat.reduceEqDiff, reduceIte, Nat.succ_ne_self, Nat.add_left_cancel_iff]; done) | (simp only [World.size_alloc, World.size_drew, heap_drewN]; omega) | (simp; done) | (simp; omega) | (dsimp only; simp only [heap_drew, heap_drewN, World.size_alloc]; omega) | omega | (trace_state; fail)); (first | (exact ne_lit (by omega)) | (simp [Value.ownBlock, Act.eval]; done) | (simp [Value.ownBlock]; omega) | (show some _ ≠ some _; intro hh; injection hh; omega)); (simp only [heap_alloc_at, heap_drewN, heap_drew, World.size_alloc, Nat.left_eq_add, Nat.add_eq_left, Nat.reduceEqDiff, reduceIte, Nat.succ_ne_self, Nat.add_left_cancel_iff]; done))))) (by simp [Value.oneCell']) (by unfold maxLen; omega) (by omega) (by have := HK22.out.size; simp <;> omega) ?_
            intro v25 w25 ho25 hg25
            obtain ⟨a25, l25, c25, rfl⟩ := own_slice ho25
            have HK25 : Hid (Keep (fun _ => False) w1 w25) := Keep.grown (by (repeat (first | exact HK22.out | exact Keep.refl _ _ | refine Keep.drew ?_ | refine Keep.drewN ?_ _ | refine Keep.alloc ?_ _ | refine Keep.setNew ?_ (by omega) _)); done) hg25 (fun x h1 h2 => by have := (HO22.out.lt x h1).1; omega)
            have HO25 := Lib.hid ho25
            clear ho25 hg25
            refine hK.out _ _ (.inr (by (refine sT ?_ hc0 fz HY.out; (repeat (first | exact HK25.out | exact HK22.out | exact HK14.out | exact Keep.refl _ _ | refine Keep.drew ?_ | refine Keep.drewN ?_ _ | refine Keep.alloc ?_ _ | refine Keep.setNew ?_ (by omega) _)); done))) (fun hS19 => ?_)
            replace hS19 := hS19.resolve_left (by decide)
            try simp only [Act.put, List.setIfInBounds_toArray, List.set_cons_zero, List.set_cons_succ]
            refine wpAnyL_ready (rs := [20]) (by kernel_rfl) (by simp) ?_
            refine AllReadyL.cons (o := { dst := some 26, op := Go.Op.nilCheck (Go.Operand.tmp 6), type := 0, pos := "resv.go:34", after := #[{ on := 0, ground := Go.Ground.data }, { on := 0, ground := Go.Ground.phase }, { on := 1, ground := Go.Ground.phase }, { on := 2, ground := Go.Ground.phase }, { on := 3, ground := Go.Ground.phase }, { on := 4, ground := Go.Ground.phase }, { on := 5, ground := Go.Ground.phase }, { on := 6, ground := Go.Ground.phase }, { on := 7, ground := Go.Ground.phase }, { on := 8, ground := Go.Ground.phase }, { on := 9, ground := Go.Ground.phase }, { on := 10, ground := Go.Ground.phase }, { on := 11, ground := Go.Ground.phase }, { on := 12, ground := Go.Ground.phase }, { on := 13, ground := Go.Ground.phase }, { on := 14, ground := Go.Ground.phase }, { on := 15, ground := Go.Ground.phase }, { on := 16, ground := Go.Ground.phase }, { on := 17, ground := Go.Ground.phase }, { on := 18, ground := Go.Ground.phase }, { on := 19, ground := Go.Ground.phase }], guard := none }) rfl (fun K hK => ?_) ?_
            · go_simp
              refine hK.out _ _ (.inr (by (refine sT ?_ hc0 fz HY.out; (repeat (first | exact HK25.out | exact HK22.out | exact HK14.out | exact Keep.refl _ _ | refine Keep.drew ?_ | refine Keep.drewN ?_ _ | refine Keep.alloc ?_ _ | refine Keep.setNew ?_ (by omega) _)); done))) (fun hS20 => ?_)
              replace hS20 := hS20.resolve_left (by decide)
              try simp only [Act.put, List.setIfInBounds_toArray, List.set_cons_zero, List.set_cons_succ]
              refine wpAnyL_take 21 (oi := { dst := some 27, op := Go.Op.fieldAddr 64 (Go.Operand.tmp 26) 0, type := 0, pos := "resv.go:34", after := #[{ on := 20, ground := Go.Ground.data }, { on := 0, ground := Go.Ground.phase }, { on := 1, ground := Go.Ground.phase }, { on := 2, ground := Go.Ground.phase }, { on := 3, ground := Go.Ground.phase }, { on := 4, ground := Go.Ground.phase }, { on := 5, ground := Go.Ground.phase }, { on := 6, ground := Go.Ground.phase }, { on := 7, ground := Go.Ground.phase }, { on := 8, ground := Go.Ground.phase }, { on := 9, ground := Go.Ground.phase }, { on := 10, ground := Go.Ground.phase }, { on := 11, ground := Go.Ground.phase }, { on := 12, ground := Go.Ground.phase }, { on := 13, ground := Go.Ground.phase }, { on := 14, ground := Go.Ground.phase }, { on := 15, ground := Go.Ground.phase }, { on := 16, ground := Go.Ground.phase }, { on := 17, ground := Go.Ground.phase }, { on := 18, ground := Go.Ground.phase }, { on := 19, ground := Go.Ground.phase }], guard := none }) (v := ?_) rfl (by kernel_rfl) (by kernel_rfl) (by kernel_rfl) (by kernel_rfl) (fun _ _ _ h => h) (Or.inl ⟨by rfl, ?_⟩) (by assumption) ?_
              rotate_left
              · (intro w hSw; (try dsimp only at hSw); go_split_ands; go_simp; try (with_reducible rfl))
              simp only [Act.put, List.setIfInBounds_toArray, List.set_cons_zero, List.set_cons_succ]
              refine wpAnyL_ready (rs := [22]) (by kernel_rfl) (by simp) ?_
              refine AllReadyL.cons (o := { dst := none, op := Go.Op.store 28 (Go.Operand.tmp 27) (Go.Operand.tmp 25), type := 0, pos := "resv.go:34", after := #[{ on := 21, ground := Go.Ground.data }, { on := 19, ground := Go.Ground.data }, { on := 19, ground := Go.Ground.chain }, { on := 0, ground := Go.Ground.phase }, { on := 1, ground := Go.Ground.phase }, { on := 2, ground := Go.Ground.phase }, { on := 3, ground := Go.Ground.phase }, { on := 4, ground := Go.Ground.phase }, { on := 5, ground := Go.Ground.phase }, { on := 6, ground := Go.Ground.phase }, { on := 7, ground := Go.Ground.phase }, { on := 8, ground := Go.Ground.phase }, { on := 9, ground := Go.Ground.phase }, { on := 10, ground := Go.Ground.phase }, { on := 11, ground := Go.Ground.phase }, { on := 12, ground := Go.Ground.phase }, { on := 13, ground := Go.Ground.phase }, { on := 14, ground := Go.Ground.phase }, { on := 15, ground := Go.Ground.phase }, { on := 16, ground := Go.Ground.phase }, { on := 17, ground := Go.Ground.phase }, { on := 18, ground := Go.Ground.phase }, { on := 19, ground := Go.Ground.phase }], guard := none }) rfl (fun K hK => ?_) ?_
              · go_simp
                refine hK.out _ _ (.inl rfl) (fun _ => ?_)
                try simp only [Act.put, List.setIfInBounds_toArray, List.set_cons_zero, List.set_cons_succ]
                refine wpAnyL_done (by kernel_rfl) ?_ _
                refine NoPanic.normal ?_
                have hq := put_mov HR1.out hk (by omega) HK25.out HO25.out
                go_wp2
                go_end0
                exact ⟨rfl, _, hq.1, (KW.out.mono (fun _ _ h => h.elim)).trans hq.2.1, fun z hz => by have := hq.2.2 z hz; omega⟩
              exact AllReadyL.nil
            exact AllReadyL.nil
          exact AllReadyL.nil
        exact AllReadyL.nil
      exact AllReadyL.nil
    exact AllReadyL.nil
  exact AllReadyL.nil

set_option maxHeartbeats 400000 in
theorem even_int (x : Int) (h : i64R x) (w : World) : Calls Try.prog 30 #[.int .i64 x, .int .i64 3] w fun e w' => e = .returned (.bool (x / 8 * 8 == x)) ∧ w = w' := by
  obtain ⟨z, hz⟩ : ∃ z, x / 8 * 8 = z := ⟨_, rfl⟩
  have HD : Hid (∀ W, Calls Try.prog 35 #[.int .i64 x, .int .i64 3] W fun e w' => e = .returned (.int .i64 z) ∧ W = w') := fun W => by rw [← hz]; exact (down_int x h W).mono fun e w' h => ⟨h.1, h.2.symm⟩
  rw [hz]
  clear hz
  go_enter Try.func30, Try.ntmps30
  go_wp2_with (first | (go_at_call 41; refine (order3 _).mono ?_; rintro e w1 ⟨rfl, rfl⟩) | (go_at_call 35; refine (HD.out _).mono ?_; rintro e w1 ⟨rfl, rfl⟩))
  go_ret
  exact ⟨by first | rfl | exact ret_bool (by rw [Bool.eq_iff_iff]; simp), rfl⟩

theorem and7_int (x : Int) (h : i64R x) : bits .and .i64 x 7 = x % 8 := by
  unfold i64R at h
  obtain ⟨N, hN⟩ : ∃ N : Nat, (N : Int) = x % 18446744073709551616 := ⟨(x % 18446744073709551616).toNat, by omega⟩
  have e0 : (BitVec.ofInt 64 x).toNat = N := by
    rw [BitVec.toNat_ofInt]
    show (x % 18446744073709551616).toNat = N
    omega
  have e7 : (BitVec.ofInt 64 ((7 : Nat) : Int)).toNat = 7 := by decide
  show IntKind.i64.wrap ((BitVec.ofInt 64 x &&& BitVec.ofInt 64 ((7 : Nat) : Int)).toNat : Int) = _
  rw [BitVec.toNat_and, e0, e7]
  have e8 : N &&& 7 = N % 8 := Nat.and_two_pow_sub_one_eq_mod N 3
  rw [e8]
  have : IntKind.i64.wrap ((N % 8 : Nat) : Int) = ((N % 8 : Nat) : Int) := IntWalk.i64_in _ (by omega)
  rw [this]
  omega

set_option maxHeartbeats 1000000 in
theorem bit_int (x : Int) (h : i64R x) (r : Nat) (hr : x % 8 = r) (w : World) : Calls Try.prog 32 #[.int .i64 x] w fun e w' => e = .returned (.int .u8 ((2 ^ r : Nat) : Int)) ∧ w = w' := by
  have h7 := and7_int x h
  rw [hr] at h7
  have h8 : r < 8 := by omega
  clear hr h
  have hc : r = 0 ∨ r = 1 ∨ r = 2 ∨ r = 3 ∨ r = 4 ∨ r = 5 ∨ r = 6 ∨ r = 7 := by omega
  rcases hc with rfl | rfl | rfl | rfl | rfl | rfl | rfl | rfl
  all_goals
    go_enter Try.func32, Try.ntmps32
    go_wp2
    go_ret
    exact ⟨rfl, rfl⟩

end Go.Proofs.Ytmbgebmhdofdaaa
