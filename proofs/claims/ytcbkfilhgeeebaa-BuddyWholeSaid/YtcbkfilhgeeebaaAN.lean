/- Buddy: give of what was taken. -/
import Derived.Test.YtcbkfilhgeeebaaAM
set_option linter.unusedVariables false
set_option linter.unusedSimpArgs false
namespace Go.Proofs.Ytcbkfilhgeeebaa
open Go.RowKit Go.Own

theorem own_conv {w : World} {C B m : Nat} {v : Value} {cs : List Value} {T : List Bk} (h : w.ownsRow C 55 2 v m cs) (hm : m = T.length) (hc : cs = bkE.cs T) (hB : B ≤ C) : OwnL bkE w B 55 v T := by
  subst hm; subst hc
  exact OwnL.base (C := B) (B := C) h fun x hx => by have := (World.ownsRow.lt h x hx).1; omega

theorem size_p (o P : Nat) (h : o ≤ 8) (hP : 2 ^ o = P) (W : World) : Calls Try.prog 14 #[.int .i64 (o : Int)] W fun e w' => e = .returned (.int .i64 (P : Int)) ∧ w' = W := by
  have e : (P : Int) = (2 : Int) ^ o := by rw [← hP]; simp
  rw [e]; exact size_any o h W
theorem cell_new1 {w : World} {b j : Nat} {o : Obj} {x : Value} (h : w.cell? ⟨b, j, none⟩ = some x) : (w.drew.alloc o).cell? ⟨b, j, none⟩ = some x :=
  (cell_alloc_lt (w := w.drew) (block_lt_cell h)).trans h
theorem cell_new2 {w : World} {b j : Nat} {o : Obj} {u v x : Value} (h : w.cell? ⟨b, j, none⟩ = some x) : (((w.drew.alloc o).setCell ⟨w.heap.size, 0, none⟩ u).setCell ⟨w.heap.size, 1, none⟩ v).cell? ⟨b, j, none⟩ = some x := by
  have hb := block_lt_cell h
  rw [cell_setCell_blk (by omega), cell_setCell_blk (by omega)]
  exact cell_new1 h
theorem keep_new2 {w : World} {o : Obj} {u v : Value} : Keep (fun _ => False) w (((w.drew.alloc o).setCell ⟨w.heap.size, 0, none⟩ u).setCell ⟨w.heap.size, 1, none⟩ v) :=
  ((((Keep.refl _ w).drew).alloc o).setNew (Nat.le_refl _) _).setNew (Nat.le_refl _) _
theorem block_new2 {w : World} {a b u v : Value} {e : TypeId} : (((w.drew.alloc (.cells #[a, b] e)).setCell ⟨w.heap.size, 0, none⟩ u).setCell ⟨w.heap.size, 1, none⟩ v).heap[w.heap.size]? = some (.cells #[u, v] e (0, 0)) := by
  have h := heap_alloc_new w.drew (.cells #[a, b] e)
  have h2 := heap_setCell_eq (i := 0) (u := u) h
  have h3 := heap_setCell_eq (i := 1) (u := v) h2
  simpa using h3

theorem keepS3 {S : Nat → Prop} {w W : World} {p i b j : Nat} {v u : Value} (h : Keep S w W) (hp : ¬ S p) (hb : ¬ S b) (hc : w.cell? ⟨p, i, none⟩ = some v) (fz : w.frozen? ⟨p, i, none⟩ = false) (hd : w.cell? ⟨b, j, none⟩ = some u) :
    W.cell? ⟨p, i, none⟩ = some v ∧ W.frozen? ⟨p, i, none⟩ = false ∧ W.cell? ⟨b, j, none⟩ = some u :=
  ⟨(h.cell (block_lt_cell hc) hp).trans hc, (h.frozen (block_lt_cell hc) hp).trans fz, (h.cell (block_lt_cell hd) hb).trans hd⟩
theorem own_ne46 {w : World} {B q p x g n : Nat} {F : Nat → Bool} {v : Value} {T : List Bk} (h : St w B q p x g n F v T) : ¬ v.ownBlock = some q := fun e => by
  obtain ⟨c, hc⟩ := own_typ h.2.2.1 e
  exact typ_ne h.2.1 hc (by decide) rfl

theorem kt_on {w w1 w2 : World} {B p g : Nat} (K : Keep (fun _ => False) w w1) (k : KT B p g w1 w2) : KT B p g w w2 := by
  refine ⟨k.os.trans K.os, k.tape.trans K.tape, k.output.trans K.output, Nat.le_trans K.size k.size, fun z hz hs => ?_⟩
  rw [k.block z (Nat.lt_of_lt_of_le hz K.size) ?_]
  · exact K.block z hz id
  · rintro (h | ⟨⟨h1, _⟩, c, h2⟩ | h)
    · exact hs (.inl h)
    · exact hs (.inr (.inl ⟨⟨h1, hz⟩, c, (K.block z hz id).symm.trans h2⟩))
    · exact hs (.inr (.inr h))
theorem two_up {w : World} {q b e e' : Nat} {x0 x1 x2 y0 y1 : Value} (h : w.heap[q]? = some (.cells #[x0, x1, x2] e (0, 0))) (h' : w.heap[b]? = some (.cells #[y0, y1] e' (0, 0))) :
    w.cell? ⟨q, 0, none⟩ = some x0 ∧ w.cell? ⟨q, 1, none⟩ = some x1 ∧ w.cell? ⟨b, 0, none⟩ = some y0 := ⟨(cells3 h).1, (cells3 h).2.1, (cell2b h').1⟩

theorem two_up4 {w : World} {q b e e' : Nat} {x0 x1 x2 y0 y1 : Value} (h : w.heap[q]? = some (.cells #[x0, x1, x2] e (0, 0))) (h' : w.heap[b]? = some (.cells #[y0, y1] e' (0, 0))) :
    w.cell? ⟨q, 0, none⟩ = some x0 ∧ w.cell? ⟨q, 1, none⟩ = some x1 ∧ w.cell? ⟨b, 0, none⟩ = some y0 ∧ w.cell? ⟨b, 1, none⟩ = some y1 := ⟨(cells3 h).1, (cells3 h).2.1, (cell2b h').1, (cell2b h').2⟩

set_option maxRecDepth 100000 in
set_option maxHeartbeats 4000000 in
theorem wgive_any {w : World} {B q p x g n : Nat} {F : Nat → Bool} {T : List Bk} (i : Nat) (half : Bool) (h : Wd w B q p x g n F T) (hl : T.length ≤ 5000) (hi : i < T.length) :
    Calls Try.prog 28 #[.pointer (some ⟨q, 0, none⟩), .int .i64 i, .bool half] w (GvC w B q p x g n F T) := by
  obtain ⟨v, hS, hT⟩ := h
  have hperm := rmT_perm hi
  have hlen := rmT_len hi
  have hB := hS.base
  obtain ⟨gv, cap, rfl, hBg, hcap, hgl⟩ := hS.2.2.1.form (by intro e; subst e; simp at hi)
  obtain ⟨c0, c1⟩ := bk_cells hS.2.2.1 hi
  have hok := hT.ok _ (List.getElem_mem hi)
  obtain ⟨y, hy⟩ : ∃ y, T[i]'hi = y := ⟨_, rfl⟩
  rw [hy] at c0 c1 hok hperm
  obtain ⟨a, k, rfl, hk8, hak, han⟩ := hok
  have HT := Lib.hid (hT.perm hperm)
  have HOK := Lib.hid (And.intro hk8 (And.intro hak han))
  obtain ⟨z0, z1, z2⟩ := cells3 hS.2.1
  have fz : w.frozen? ⟨q, 2, none⟩ = false := frozen_block hS.2.1
  obtain ⟨vlo, hlo, hrlo⟩ := sl_lo et43 hS.2.2.1 (Nat.le_of_lt hi)
  obtain ⟨vhi, hhi, hrhi⟩ := sl_hi et43 hS.2.2.1 (i := i + 1) (by omega) (↑i + 1) (by simp)
  have RLO := Lib.hid hrlo
  have RHI := Lib.hid hrhi
  have k0 : (0 : Int) ≤ i := by omega
  have k1 : (i : Int) < T.length := by omega
  have hw1 : IntKind.i64.wrap (↑i + 1) = ↑i + 1 := IntWalk.i64_in _ (by omega)
  have HS := Lib.hid hS
  clear hrlo hrhi hT hperm hy hS hak han
  go_enter Try.func28, Try.ntmps28
  go_wp2
  have HBX : Hid ((w.alloc (.cells #[.int .i64 (a : Int), .int .i64 (k : Int)] 55)).heap[w.heap.size]? = some (.cells #[.int .i64 (a : Int), .int .i64 (k : Int)] 55 (0, 0))) := heap_alloc_new w _
  have HK1 : Hid (Keep (fun _ => False) w (w.alloc (.cells #[.int .i64 (a : Int), .int .i64 (k : Int)] 55))) := (Keep.refl _ _).alloc _
  obtain ⟨b7, hb7⟩ : ∃ b7, w.heap.size = b7 := ⟨_, rfl⟩
  rw [hb7] at HBX ⊢
  generalize w.alloc (.cells #[.int .i64 (a : Int), .int .i64 (k : Int)] 55) = w1 at HBX HK1 ⊢
  have HB7 := Lib.hid hb7
  have HS1 := Lib.hid (HS.out.keep0 HK1.out)
  have RLO1 := Lib.hid (RLO.out.keep HK1.out (fun _ _ _ _ => id))
  have RHI1 := Lib.hid (RHI.out.keep HK1.out (fun _ _ _ _ => id))
  clear c0 c1 z0 z1 z2 fz hb7
  obtain ⟨z0, z1, z2⟩ := cells3 HS1.out.2.1
  have fz : w1.frozen? ⟨q, 2, none⟩ = false := frozen_block HS1.out.2.1
  have hql := block_lt HS1.out.2.1
  refine wp_region_noPanic ?_
  refine wp_region_L (fun w' => w'.cell? ⟨q, 2, none⟩ = some (.slice (some ⟨gv, 0, none⟩) T.length cap) ∧ w'.frozen? ⟨q, 2, none⟩ = false) 19 (by kernel_rfl) (by (refine keepS2 (S := fun _ => False) ?_ hql id z2 fz; (repeat (first | exact HK33.out | exact HK25.out | exact Keep.refl _ _ | refine Keep.drew ?_ | refine Keep.drewN ?_ _ | refine Keep.alloc ?_ _ | refine Keep.setNew ?_ (by omega) _)); done)) (fun hS0 => ?_)
  refine wpAnyL_take 0 (oi := { dst := some 17, op := Go.Op.move (Go.Operand.tmp 0), type := 37, pos := "law.go:37", after := #[], guard := none }) (v := ?_) rfl (by kernel_rfl) (by kernel_rfl) (by kernel_rfl) (by kernel_rfl) (fun _ _ _ h => h) (Or.inl ⟨by rfl, ?_⟩) (by assumption) ?_
  rotate_left
  · (intro w hSw; (try dsimp only at hSw); go_split_ands; go_simp; try (with_reducible rfl))
  simp only [Act.put, List.setIfInBounds_toArray, List.set_cons_zero, List.set_cons_succ]
  refine wpAnyL_take 2 (oi := { dst := some 19, op := Go.Op.move (Go.Operand.tmp 0), type := 37, pos := "law.go:37", after := #[], guard := none }) (v := ?_) rfl (by kernel_rfl) (by kernel_rfl) (by kernel_rfl) (by kernel_rfl) (fun _ _ _ h => h) (Or.inl ⟨by rfl, ?_⟩) (by assumption) ?_
  rotate_left
  · (intro w hSw; (try dsimp only at hSw); go_split_ands; go_simp; try (with_reducible rfl))
  simp only [Act.put, List.setIfInBounds_toArray, List.set_cons_zero, List.set_cons_succ]
  refine wpAnyL_take 3 (oi := { dst := some 20, op := Go.Op.nilCheck (Go.Operand.tmp 19), type := 0, pos := "law.go:37", after := #[{ on := 2, ground := Go.Ground.data }], guard := none }) (v := ?_) rfl (by kernel_rfl) (by kernel_rfl) (by kernel_rfl) (by kernel_rfl) (fun _ _ _ h => h) (Or.inl ⟨by rfl, ?_⟩) (by assumption) ?_
  rotate_left
  · (intro w hSw; (try dsimp only at hSw); go_split_ands; go_simp; try (with_reducible rfl))
  simp only [Act.put, List.setIfInBounds_toArray, List.set_cons_zero, List.set_cons_succ]
  refine wpAnyL_take 4 (oi := { dst := some 21, op := Go.Op.fieldAddr 46 (Go.Operand.tmp 20) 2, type := 0, pos := "law.go:37", after := #[{ on := 3, ground := Go.Ground.data }], guard := none }) (v := ?_) rfl (by kernel_rfl) (by kernel_rfl) (by kernel_rfl) (by kernel_rfl) (fun _ _ _ h => h) (Or.inl ⟨by rfl, ?_⟩) (by assumption) ?_
  rotate_left
  · (intro w hSw; (try dsimp only at hSw); go_split_ands; go_simp; try (with_reducible rfl))
  simp only [Act.put, List.setIfInBounds_toArray, List.set_cons_zero, List.set_cons_succ]
  refine wpAnyL_take 5 (oi := { dst := some 22, op := Go.Op.load 43 (Go.Operand.tmp 21), type := 43, pos := "law.go:37", after := #[{ on := 4, ground := Go.Ground.data }], guard := none }) (v := ?_) rfl (by kernel_rfl) (by kernel_rfl) (by kernel_rfl) (by kernel_rfl) (fun _ _ _ h => h) (Or.inl ⟨by rfl, ?_⟩) (by assumption) ?_
  rotate_left
  · (intro w hSw; (try dsimp only at hSw); go_split_ands; go_simp; try (with_reducible rfl))
  simp only [Act.put, List.setIfInBounds_toArray, List.set_cons_zero, List.set_cons_succ]
  refine wpAnyL_take 6 (oi := { dst := some 23, op := Go.Op.move (Go.Operand.tmp 1), type := 3, pos := "law.go:37", after := #[], guard := none }) (v := ?_) rfl (by kernel_rfl) (by kernel_rfl) (by kernel_rfl) (by kernel_rfl) (fun _ _ _ h => h) (Or.inl ⟨by rfl, ?_⟩) (by assumption) ?_
  rotate_left
  · (intro w hSw; (try dsimp only at hSw); go_split_ands; go_simp; try (with_reducible rfl))
  simp only [Act.put, List.setIfInBounds_toArray, List.set_cons_zero, List.set_cons_succ]
  refine wpAnyL_take 7 (oi := { dst := some 24, op := Go.Op.slice 43 (Go.Operand.tmp 22) none (some (Go.Operand.tmp 23)) none, type := 43, pos := "law.go:37", after := #[{ on := 5, ground := Go.Ground.data }, { on := 6, ground := Go.Ground.data }], guard := none }) (v := ?_) rfl (by kernel_rfl) (by kernel_rfl) (by kernel_rfl) (by kernel_rfl) (fun _ _ _ h => h) (Or.inl ⟨by rfl, ?_⟩) (by assumption) ?_
  rotate_left
  · (intro w hSw; (try dsimp only at hSw); go_split_ands; go_simp; try (with_reducible rfl))
  simp only [Act.put, List.setIfInBounds_toArray, List.set_cons_zero, List.set_cons_succ]
  refine wpAnyL_take 9 (oi := { dst := some 26, op := Go.Op.move (Go.Operand.tmp 0), type := 37, pos := "law.go:37", after := #[], guard := none }) (v := ?_) rfl (by kernel_rfl) (by kernel_rfl) (by kernel_rfl) (by kernel_rfl) (fun _ _ _ h => h) (Or.inl ⟨by rfl, ?_⟩) (by assumption) ?_
  rotate_left
  · (intro w hSw; (try dsimp only at hSw); go_split_ands; go_simp; try (with_reducible rfl))
  simp only [Act.put, List.setIfInBounds_toArray, List.set_cons_zero, List.set_cons_succ]
  refine wpAnyL_take 10 (oi := { dst := some 27, op := Go.Op.nilCheck (Go.Operand.tmp 26), type := 0, pos := "law.go:37", after := #[{ on := 9, ground := Go.Ground.data }], guard := none }) (v := ?_) rfl (by kernel_rfl) (by kernel_rfl) (by kernel_rfl) (by kernel_rfl) (fun _ _ _ h => h) (Or.inl ⟨by rfl, ?_⟩) (by assumption) ?_
  rotate_left
  · (intro w hSw; (try dsimp only at hSw); go_split_ands; go_simp; try (with_reducible rfl))
  simp only [Act.put, List.setIfInBounds_toArray, List.set_cons_zero, List.set_cons_succ]
  refine wpAnyL_take 11 (oi := { dst := some 28, op := Go.Op.fieldAddr 46 (Go.Operand.tmp 27) 2, type := 0, pos := "law.go:37", after := #[{ on := 10, ground := Go.Ground.data }], guard := none }) (v := ?_) rfl (by kernel_rfl) (by kernel_rfl) (by kernel_rfl) (by kernel_rfl) (fun _ _ _ h => h) (Or.inl ⟨by rfl, ?_⟩) (by assumption) ?_
  rotate_left
  · (intro w hSw; (try dsimp only at hSw); go_split_ands; go_simp; try (with_reducible rfl))
  simp only [Act.put, List.setIfInBounds_toArray, List.set_cons_zero, List.set_cons_succ]
  refine wpAnyL_take 12 (oi := { dst := some 29, op := Go.Op.load 43 (Go.Operand.tmp 28), type := 43, pos := "law.go:37", after := #[{ on := 11, ground := Go.Ground.data }], guard := none }) (v := ?_) rfl (by kernel_rfl) (by kernel_rfl) (by kernel_rfl) (by kernel_rfl) (fun _ _ _ h => h) (Or.inl ⟨by rfl, ?_⟩) (by assumption) ?_
  rotate_left
  · (intro w hSw; (try dsimp only at hSw); go_split_ands; go_simp; try (with_reducible rfl))
  simp only [Act.put, List.setIfInBounds_toArray, List.set_cons_zero, List.set_cons_succ]
  refine wpAnyL_take 13 (oi := { dst := some 30, op := Go.Op.move (Go.Operand.tmp 1), type := 3, pos := "law.go:37", after := #[], guard := none }) (v := ?_) rfl (by kernel_rfl) (by kernel_rfl) (by kernel_rfl) (by kernel_rfl) (fun _ _ _ h => h) (Or.inl ⟨by rfl, ?_⟩) (by assumption) ?_
  rotate_left
  · (intro w hSw; (try dsimp only at hSw); go_split_ands; go_simp; try (with_reducible rfl))
  simp only [Act.put, List.setIfInBounds_toArray, List.set_cons_zero, List.set_cons_succ]
  refine wpAnyL_take 14 (oi := { dst := some 31, op := Go.Op.binOp Go.BinOp.add 3 (Go.Operand.tmp 30) (Go.Operand.const (Go.Value.int Go.IntKind.i64 1)) 3, type := 3, pos := "law.go:37", after := #[{ on := 13, ground := Go.Ground.data }], guard := none }) (v := ?_) rfl (by kernel_rfl) (by kernel_rfl) (by kernel_rfl) (by kernel_rfl) (fun _ _ _ h => h) (Or.inl ⟨by rfl, ?_⟩) (by assumption) ?_
  rotate_left
  · (intro w hSw; (try dsimp only at hSw); go_split_ands; go_simp; try (with_reducible rfl))
  simp only [Act.put, List.setIfInBounds_toArray, List.set_cons_zero, List.set_cons_succ]
  refine wpAnyL_take 15 (oi := { dst := some 32, op := Go.Op.slice 43 (Go.Operand.tmp 29) (some (Go.Operand.tmp 31)) none none, type := 43, pos := "law.go:37", after := #[{ on := 12, ground := Go.Ground.data }, { on := 14, ground := Go.Ground.data }], guard := none }) (v := ?_) rfl (by kernel_rfl) (by kernel_rfl) (by kernel_rfl) (by kernel_rfl) (fun _ _ _ h => h) (Or.inl ⟨by rfl, ?_⟩) (by assumption) ?_
  rotate_left
  · (intro w hSw; (try dsimp only at hSw); go_split_ands; go_simp; try (with_reducible rfl))
  simp only [Act.put, List.setIfInBounds_toArray, List.set_cons_zero, List.set_cons_succ]
  refine wpAnyL_ready (rs := [1]) (by kernel_rfl) (by simp) ?_
  refine AllReadyL.cons (o := { dst := some 18, op := Go.Op.buildSlice 43 0 #[], type := 43, pos := "law.go:37", after := #[], guard := none }) rfl (fun K hK => ?_) ?_
  · go_simp
    refine hK.out _ _ (.inr (by (refine keepS2 (S := fun _ => False) ?_ hql id z2 fz; (repeat (first | exact HK33.out | exact HK25.out | exact Keep.refl _ _ | refine Keep.drew ?_ | refine Keep.drewN ?_ _ | refine Keep.alloc ?_ _ | refine Keep.setNew ?_ (by omega) _)); done))) (fun hS14 => ?_)
    replace hS14 := hS14.resolve_left (by decide)
    try simp only [Act.put, List.setIfInBounds_toArray, List.set_cons_zero, List.set_cons_succ]
    refine wpAnyL_ready (rs := [8]) (by kernel_rfl) (by simp) ?_
    refine AllReadyL.cons (o := { dst := some 25, op := Go.Op.call { callee := Go.Callee.builtin Go.Builtin.append, args := #[Go.Operand.tmp 18, Go.Operand.tmp 24], argTypes := #[43, 43] }, type := 43, pos := "law.go:37", after := #[{ on := 1, ground := Go.Ground.data }, { on := 7, ground := Go.Ground.data }], guard := none }) rfl (fun K hK => ?_) ?_
    · refine step_app et43 (by rfl) (.tmp 18) (.tmp 24) (by rfl) w1.heap.size (.slice (some ⟨w1.heap.size, 0, none⟩) 0 0) 0 [] (by rfl) (own_empty_at (heap_alloc_new w1 _) (Nat.le_refl _)) vlo i (bkE.cs (T.take i)) (by rfl) (RLO1.out.keep (S := fun _ => False) (by (repeat (first | exact Keep.refl _ _ | exact Keep.refl _ _ | refine Keep.drew ?_ | refine Keep.drewN ?_ _ | refine Keep.alloc ?_ _ | refine Keep.setNew ?_ (by omega) _)); done) (fun _ _ _ _ => id)) (bkE.cs_one_cell _) (by unfold maxLen; omega) (by omega) (by simp) ?_
      intro v25 w25 ho25 hg25
      have HK25 : Hid (Keep (fun _ => False) w1 w25) := Keep.grown (by (repeat (first | exact Keep.refl _ _ | exact Keep.refl _ _ | refine Keep.drew ?_ | refine Keep.drewN ?_ _ | refine Keep.alloc ?_ _ | refine Keep.setNew ?_ (by omega) _)); done) hg25 (fun x h1 h2 => by simp [Value.ownBlock] at h1; omega)
      have HO25 := Lib.hid ho25
      clear ho25 hg25
      refine hK.out _ _ (.inr (by (refine keepS2 (S := fun _ => False) ?_ hql id z2 fz; (repeat (first | exact HK33.out | exact HK25.out | exact Keep.refl _ _ | refine Keep.drew ?_ | refine Keep.drewN ?_ _ | refine Keep.alloc ?_ _ | refine Keep.setNew ?_ (by omega) _)); done))) (fun hS15 => ?_)
      replace hS15 := hS15.resolve_left (by decide)
      try simp only [Act.put, List.setIfInBounds_toArray, List.set_cons_zero, List.set_cons_succ]
      refine wpAnyL_ready (rs := [16]) (by kernel_rfl) (by simp) ?_
      refine AllReadyL.cons (o := { dst := some 33, op := Go.Op.call { callee := Go.Callee.builtin Go.Builtin.append, args := #[Go.Operand.tmp 25, Go.Operand.tmp 32], argTypes := #[43, 43] }, type := 43, pos := "law.go:37", after := #[{ on := 8, ground := Go.Ground.data }, { on := 15, ground := Go.Ground.data }, { on := 8, ground := Go.Ground.chain }], guard := none }) rfl (fun K hK => ?_) ?_
      · refine step_app et43 (by rfl) (.tmp 25) (.tmp 32) (by rfl) w1.heap.size v25 _ _ (by rfl) HO25.out vhi (T.length - (i + 1)) (bkE.cs (T.drop (i + 1))) (by rfl) (RHI1.out.keep HK25.out (fun _ _ _ _ => id)) (bkE.cs_one_cell _) (by unfold maxLen; omega) (by omega) (by have := HK25.out.size; omega) ?_
        intro v33 w33 ho33 hg33
        obtain ⟨a33, l33, c33, rfl⟩ := own_slice ho33
        have HK33 : Hid (Keep (fun _ => False) w1 w33) := Keep.grown HK25.out hg33 (fun x h1 h2 => by have := (HO25.out.lt x h1).1; omega)
        have HL33 : Hid (∀ x, (Value.slice a33 l33 c33).ownBlock = some x → w1.heap.size ≤ x) := fun x hx => (World.ownsRow.lt ho33 x hx).1
        have HO33 : Hid (OwnL bkE w33 B 55 (.slice a33 l33 c33) (rmT T i)) := own_conv ho33 (by unfold rmT; simp; omega) (by unfold rmT; rw [bkE.cs_append, List.nil_append]) (by have := HK1.out.size; omega)
        clear ho33 hg33
        refine hK.out _ _ (.inr (by (refine keepS2 (S := fun _ => False) ?_ hql id z2 fz; (repeat (first | exact HK33.out | exact HK25.out | exact Keep.refl _ _ | refine Keep.drew ?_ | refine Keep.drewN ?_ _ | refine Keep.alloc ?_ _ | refine Keep.setNew ?_ (by omega) _)); done))) (fun hS16 => ?_)
        replace hS16 := hS16.resolve_left (by decide)
        try simp only [Act.put, List.setIfInBounds_toArray, List.set_cons_zero, List.set_cons_succ]
        refine wpAnyL_ready (rs := [17]) (by kernel_rfl) (by simp) ?_
        refine AllReadyL.cons (o := { dst := some 34, op := Go.Op.nilCheck (Go.Operand.tmp 17), type := 0, pos := "law.go:37", after := #[{ on := 0, ground := Go.Ground.data }, { on := 0, ground := Go.Ground.phase }, { on := 1, ground := Go.Ground.phase }, { on := 2, ground := Go.Ground.phase }, { on := 3, ground := Go.Ground.phase }, { on := 4, ground := Go.Ground.phase }, { on := 5, ground := Go.Ground.phase }, { on := 6, ground := Go.Ground.phase }, { on := 7, ground := Go.Ground.phase }, { on := 8, ground := Go.Ground.phase }, { on := 9, ground := Go.Ground.phase }, { on := 10, ground := Go.Ground.phase }, { on := 11, ground := Go.Ground.phase }, { on := 12, ground := Go.Ground.phase }, { on := 13, ground := Go.Ground.phase }, { on := 14, ground := Go.Ground.phase }, { on := 15, ground := Go.Ground.phase }, { on := 16, ground := Go.Ground.phase }], guard := none }) rfl (fun K hK => ?_) ?_
        · go_simp
          refine hK.out _ _ (.inr (by (refine keepS2 (S := fun _ => False) ?_ hql id z2 fz; (repeat (first | exact HK33.out | exact HK25.out | exact Keep.refl _ _ | refine Keep.drew ?_ | refine Keep.drewN ?_ _ | refine Keep.alloc ?_ _ | refine Keep.setNew ?_ (by omega) _)); done))) (fun hS17 => ?_)
          replace hS17 := hS17.resolve_left (by decide)
          try simp only [Act.put, List.setIfInBounds_toArray, List.set_cons_zero, List.set_cons_succ]
          refine wpAnyL_take 18 (oi := { dst := some 35, op := Go.Op.fieldAddr 46 (Go.Operand.tmp 34) 2, type := 0, pos := "law.go:37", after := #[{ on := 17, ground := Go.Ground.data }, { on := 0, ground := Go.Ground.phase }, { on := 1, ground := Go.Ground.phase }, { on := 2, ground := Go.Ground.phase }, { on := 3, ground := Go.Ground.phase }, { on := 4, ground := Go.Ground.phase }, { on := 5, ground := Go.Ground.phase }, { on := 6, ground := Go.Ground.phase }, { on := 7, ground := Go.Ground.phase }, { on := 8, ground := Go.Ground.phase }, { on := 9, ground := Go.Ground.phase }, { on := 10, ground := Go.Ground.phase }, { on := 11, ground := Go.Ground.phase }, { on := 12, ground := Go.Ground.phase }, { on := 13, ground := Go.Ground.phase }, { on := 14, ground := Go.Ground.phase }, { on := 15, ground := Go.Ground.phase }, { on := 16, ground := Go.Ground.phase }], guard := none }) (v := ?_) rfl (by kernel_rfl) (by kernel_rfl) (by kernel_rfl) (by kernel_rfl) (fun _ _ _ h => h) (Or.inl ⟨by rfl, ?_⟩) (by assumption) ?_
          rotate_left
          · (intro w hSw; (try dsimp only at hSw); go_split_ands; go_simp; try (with_reducible rfl))
          simp only [Act.put, List.setIfInBounds_toArray, List.set_cons_zero, List.set_cons_succ]
          refine wpAnyL_ready (rs := [19]) (by kernel_rfl) (by simp) ?_
          refine AllReadyL.cons (o := { dst := none, op := Go.Op.store 43 (Go.Operand.tmp 35) (Go.Operand.tmp 33), type := 0, pos := "law.go:37", after := #[{ on := 18, ground := Go.Ground.data }, { on := 16, ground := Go.Ground.data }, { on := 16, ground := Go.Ground.chain }, { on := 0, ground := Go.Ground.phase }, { on := 1, ground := Go.Ground.phase }, { on := 2, ground := Go.Ground.phase }, { on := 3, ground := Go.Ground.phase }, { on := 4, ground := Go.Ground.phase }, { on := 5, ground := Go.Ground.phase }, { on := 6, ground := Go.Ground.phase }, { on := 7, ground := Go.Ground.phase }, { on := 8, ground := Go.Ground.phase }, { on := 9, ground := Go.Ground.phase }, { on := 10, ground := Go.Ground.phase }, { on := 11, ground := Go.Ground.phase }, { on := 12, ground := Go.Ground.phase }, { on := 13, ground := Go.Ground.phase }, { on := 14, ground := Go.Ground.phase }, { on := 15, ground := Go.Ground.phase }, { on := 16, ground := Go.Ground.phase }], guard := none }) rfl (fun K hK => ?_) ?_
          · go_simp
            refine hK.out _ _ (.inl rfl) (fun _ => ?_)
            try simp only [Act.put, List.setIfInBounds_toArray, List.set_cons_zero, List.set_cons_succ]
            refine wpAnyL_done (by kernel_rfl) ?_ _
            refine NoPanic.normal ?_
            have hput := HS1.out.putO (HK33.out.mono (fun _ _ h => h.elim)) HO33.out (fun z hz => .inr (HL33.out z hz))
            have HB8 : Hid ((w33.setCell ⟨q, 2, none⟩ (.slice a33 l33 c33)).heap[b7]? = some (.cells #[.int .i64 (a : Int), .int .i64 (k : Int)] 55 (0, 0))) := by
              unfold Hid
              rw [heap_setCell_ne (typ_ne HBX.out HS1.out.2.1 (by decide))]
              exact (HK33.out.block b7 (block_lt HBX.out) id).trans HBX.out
            have HS2 := Lib.hid hput.1
            have HU2 := Lib.hid hput.2
            clear hput z0 z1 z2 fz
            generalize w33.setCell ⟨q, 2, none⟩ (.slice a33 l33 c33) = w2 at HB8 HS2 HU2 ⊢
            by_cases hh : half = true ∧ k ≠ 0
            · obtain ⟨rfl, hk0⟩ := hh
              obtain ⟨j, rfl⟩ : ∃ j, k = j + 1 := ⟨k - 1, by omega⟩
              have HTH := Lib.hid HT.out.half
              obtain ⟨hk8', hak, han⟩ := HOK.out
              have hn1 := HS2.out.1.1.n1024
              obtain ⟨P, hP⟩ : ∃ P, 2 ^ j = P := ⟨_, rfl⟩
              have hPP : P ≤ 256 := by have := Nat.pow_le_pow_right (n := 2) (by decide) (show j ≤ 8 by omega); omega
              have e3 := p2s j
              obtain ⟨A, hA⟩ : ∃ A, a + P = A := ⟨_, rfl⟩
              have aP : IntKind.i64.wrap ((a : Int) + (P : Int)) = (A : Int) := by rw [← hA]; exact wsum a P (by omega) (by omega)
              have HA := Lib.hid hA
              obtain ⟨kk, hkk⟩ : ∃ kk : Int, ((j + 1 : Nat) : Int) = kk := ⟨_, rfl⟩
              have kw : IntKind.i64.wrap (kk - 1) = (j : Int) := (IntWalk.i64_in _ (by omega)).trans (by omega)
              have kp : decide (0 < kk) = true := by simp; omega
              have HP := Lib.hid hP
              have HKK := Lib.hid hkk
              rw [hkk] at HB8
              obtain ⟨d0, d1⟩ := cell2b HB8.out
              clear hkk hP hA
              go_wp2
              go_region_held3 (fun w' => w'.cell? ⟨b7, 0, none⟩ = some (.int .i64 (a : Int)))
                (first | exact d0 | exact cell_new1 d0 | exact cell_new2 d0)
                (first | (go_at_call 14; refine (size_p j P (by omega) HP.out _).mono ?_; rintro e w4 ⟨rfl, rfl⟩))
              all_goals
                have HB9 : Hid ((w2.alloc (.cells #[.int .i64 (A : Int), .int .i64 (j : Int)] 55)).drew.heap[w2.heap.size]? = some (.cells #[.int .i64 (A : Int), .int .i64 (j : Int)] 55 (0, 0))) := heap_alloc_new w2 _
                have HK3 : Hid (Keep (fun _ => False) w2 (w2.alloc (.cells #[.int .i64 (A : Int), .int .i64 (j : Int)] 55)).drew) := (by (repeat (first | exact Keep.refl _ _ | exact Keep.refl _ _ | refine Keep.drew ?_ | refine Keep.drewN ?_ _ | refine Keep.alloc ?_ _ | refine Keep.setNew ?_ (by omega) _)); done)
                generalize (w2.alloc (.cells #[.int .i64 (A : Int), .int .i64 (j : Int)] 55)).drew = w3 at HB9 HK3 ⊢
                have HS3 := Lib.hid (HS2.out.keep0 HK3.out)
                have HB8' := Lib.hid ((HK3.out.block b7 (block_lt HB8.out) id).trans HB8.out)
                have HN7 : Hid (¬ (Value.slice a33 l33 c33).ownBlock = some b7) := fun e => by have := HL33.out b7 e; have := block_lt HBX.out; omega
                have HN9 : Hid (¬ (Value.slice a33 l33 c33).ownBlock = some w2.heap.size) := fun e => by have := (HS2.out.2.2.1.lt _ e).2; omega
                clear d0 d1
                obtain ⟨z0, z1, z2⟩ := cells3 HS3.out.2.1
                obtain ⟨d0, d1⟩ := cell2b HB8'.out
                have fz : w3.frozen? ⟨q, 2, none⟩ = false := frozen_block HS3.out.2.1
                go_wp2
                refine wp_region_noPanic ?_
                refine wp_region_L (fun w' => w'.cell? ⟨q, 2, none⟩ = some (.slice a33 l33 c33) ∧ w'.frozen? ⟨q, 2, none⟩ = false ∧ w'.cell? ⟨b7, 0, none⟩ = some (.int .i64 (a : Int))) 13 (by kernel_rfl) (by (refine keepS3 (S := fun z => (Value.slice a33 l33 c33).ownBlock = some z) ?_ (own_ne46 HS3.out) HN7.out z2 fz d0; (repeat (first | exact HK62.out | exact Keep.refl _ _ | refine Keep.drew ?_ | refine Keep.drewN ?_ _ | refine Keep.alloc ?_ _ | refine Keep.setNew ?_ (by omega) _)); done)) (fun hS0 => ?_)
                refine wpAnyL_take 0 (oi := { dst := some 52, op := Go.Op.move (Go.Operand.tmp 0), type := 37, pos := "law.go:41", after := #[], guard := none }) (v := ?_) rfl (by kernel_rfl) (by kernel_rfl) (by kernel_rfl) (by kernel_rfl) (fun _ _ _ h => h) (Or.inl ⟨by rfl, ?_⟩) (by assumption) ?_
                rotate_left
                · (intro w hSw; (try dsimp only at hSw); go_split_ands; go_simp; try (with_reducible rfl))
                simp only [Act.put, List.setIfInBounds_toArray, List.set_cons_zero, List.set_cons_succ]
                refine wpAnyL_take 1 (oi := { dst := some 53, op := Go.Op.move (Go.Operand.tmp 0), type := 37, pos := "law.go:41", after := #[], guard := none }) (v := ?_) rfl (by kernel_rfl) (by kernel_rfl) (by kernel_rfl) (by kernel_rfl) (fun _ _ _ h => h) (Or.inl ⟨by rfl, ?_⟩) (by assumption) ?_
                rotate_left
                · (intro w hSw; (try dsimp only at hSw); go_split_ands; go_simp; try (with_reducible rfl))
                simp only [Act.put, List.setIfInBounds_toArray, List.set_cons_zero, List.set_cons_succ]
                refine wpAnyL_take 2 (oi := { dst := some 54, op := Go.Op.nilCheck (Go.Operand.tmp 53), type := 0, pos := "law.go:41", after := #[{ on := 1, ground := Go.Ground.data }], guard := none }) (v := ?_) rfl (by kernel_rfl) (by kernel_rfl) (by kernel_rfl) (by kernel_rfl) (fun _ _ _ h => h) (Or.inl ⟨by rfl, ?_⟩) (by assumption) ?_
                rotate_left
                · (intro w hSw; (try dsimp only at hSw); go_split_ands; go_simp; try (with_reducible rfl))
                simp only [Act.put, List.setIfInBounds_toArray, List.set_cons_zero, List.set_cons_succ]
                refine wpAnyL_take 3 (oi := { dst := some 55, op := Go.Op.fieldAddr 46 (Go.Operand.tmp 54) 2, type := 0, pos := "law.go:41", after := #[{ on := 2, ground := Go.Ground.data }], guard := none }) (v := ?_) rfl (by kernel_rfl) (by kernel_rfl) (by kernel_rfl) (by kernel_rfl) (fun _ _ _ h => h) (Or.inl ⟨by rfl, ?_⟩) (by assumption) ?_
                rotate_left
                · (intro w hSw; (try dsimp only at hSw); go_split_ands; go_simp; try (with_reducible rfl))
                simp only [Act.put, List.setIfInBounds_toArray, List.set_cons_zero, List.set_cons_succ]
                refine wpAnyL_take 4 (oi := { dst := some 56, op := Go.Op.load 43 (Go.Operand.tmp 55), type := 43, pos := "law.go:41", after := #[{ on := 3, ground := Go.Ground.data }], guard := none }) (v := ?_) rfl (by kernel_rfl) (by kernel_rfl) (by kernel_rfl) (by kernel_rfl) (fun _ _ _ h => h) (Or.inl ⟨by rfl, ?_⟩) (by assumption) ?_
                rotate_left
                · (intro w hSw; (try dsimp only at hSw); go_split_ands; go_simp; try (with_reducible rfl))
                simp only [Act.put, List.setIfInBounds_toArray, List.set_cons_zero, List.set_cons_succ]
                refine wpAnyL_take 5 (oi := { dst := some 57, op := Go.Op.fieldAddr 55 (Go.Operand.tmp 7) 0, type := 0, pos := "law.go:41", after := #[], guard := none }) (v := ?_) rfl (by kernel_rfl) (by kernel_rfl) (by kernel_rfl) (by kernel_rfl) (fun _ _ _ h => h) (Or.inl ⟨by rfl, ?_⟩) (by assumption) ?_
                rotate_left
                · (intro w hSw; (try dsimp only at hSw); go_split_ands; go_simp; try (with_reducible rfl))
                simp only [Act.put, List.setIfInBounds_toArray, List.set_cons_zero, List.set_cons_succ]
                refine wpAnyL_take 6 (oi := { dst := some 58, op := Go.Op.load 3 (Go.Operand.tmp 57), type := 3, pos := "law.go:41", after := #[{ on := 5, ground := Go.Ground.data }], guard := none }) (v := ?_) rfl (by kernel_rfl) (by kernel_rfl) (by kernel_rfl) (by kernel_rfl) (fun _ _ _ h => h) (Or.inl ⟨by rfl, ?_⟩) (by assumption) ?_
                rotate_left
                · (intro w hSw; (try dsimp only at hSw); go_split_ands; go_simp; try (with_reducible rfl))
                simp only [Act.put, List.setIfInBounds_toArray, List.set_cons_zero, List.set_cons_succ]
                refine wpAnyL_take 7 (oi := { dst := some 59, op := Go.Op.move (Go.Operand.tmp 8), type := 3, pos := "law.go:41", after := #[], guard := none }) (v := ?_) rfl (by kernel_rfl) (by kernel_rfl) (by kernel_rfl) (by kernel_rfl) (fun _ _ _ h => h) (Or.inl ⟨by rfl, ?_⟩) (by assumption) ?_
                rotate_left
                · (intro w hSw; (try dsimp only at hSw); go_split_ands; go_simp; try (with_reducible rfl))
                simp only [Act.put, List.setIfInBounds_toArray, List.set_cons_zero, List.set_cons_succ]
                refine wpAnyL_take 8 (oi := { dst := some 60, op := Go.Op.build 55 #[(0, Go.Operand.tmp 58), (1, Go.Operand.tmp 59)], type := 55, pos := "law.go:41", after := #[{ on := 6, ground := Go.Ground.data }, { on := 7, ground := Go.Ground.data }], guard := none }) (v := ?_) rfl (by kernel_rfl) (by kernel_rfl) (by kernel_rfl) (by kernel_rfl) (fun _ _ _ h => h) (Or.inl ⟨by rfl, ?_⟩) (by assumption) ?_
                rotate_left
                · (intro w hSw; (try dsimp only at hSw); go_split_ands; go_simp; try (with_reducible rfl))
                simp only [Act.put, List.setIfInBounds_toArray, List.set_cons_zero, List.set_cons_succ]
                refine wpAnyL_ready (rs := [9]) (by kernel_rfl) (by simp) ?_
                refine AllReadyL.cons (o := { dst := some 61, op := Go.Op.buildSlice 43 1 #[(0, Go.Operand.tmp 60)], type := 43, pos := "law.go:41", after := #[{ on := 8, ground := Go.Ground.data }], guard := none }) rfl (fun K hK => ?_) ?_
                · go_simp
                  refine hK.out _ _ (.inr (by (refine keepS3 (S := fun z => (Value.slice a33 l33 c33).ownBlock = some z) ?_ (own_ne46 HS3.out) HN7.out z2 fz d0; (repeat (first | exact HK62.out | exact Keep.refl _ _ | refine Keep.drew ?_ | refine Keep.drewN ?_ _ | refine Keep.alloc ?_ _ | refine Keep.setNew ?_ (by omega) _)); done))) (fun hS9 => ?_)
                  replace hS9 := hS9.resolve_left (by decide)
                  try simp only [Act.put, List.setIfInBounds_toArray, List.set_cons_zero, List.set_cons_succ]
                  refine wpAnyL_ready (rs := [10]) (by kernel_rfl) (by simp) ?_
                  refine AllReadyL.cons (o := { dst := some 62, op := Go.Op.call { callee := Go.Callee.builtin Go.Builtin.append, args := #[Go.Operand.tmp 56, Go.Operand.tmp 61], argTypes := #[43, 43] }, type := 43, pos := "law.go:41", after := #[{ on := 4, ground := Go.Ground.data }, { on := 9, ground := Go.Ground.data }], guard := none }) rfl (fun K hK => ?_) ?_
                  · refine step_appF et43 (by rfl) (.tmp 56) (.tmp 61) (by rfl) B (.slice a33 l33 c33) (rmT T i).length (bkE.cs (rmT T i)) (by rfl) (HS3.out.2.2.1.keep (S := fun _ => False) (by (repeat (first | exact Keep.refl _ _ | exact Keep.refl _ _ | refine Keep.drew ?_ | refine Keep.drewN ?_ _ | refine Keep.alloc ?_ _ | refine Keep.setNew ?_ (by omega) _)); done) (fun _ _ => id)) ⟨w3.heap.size, 0, none⟩ 1 1 [.int .i64 (a : Int), .int .i64 (j : Int)] (by rfl) rfl (new_cells (heap_alloc_new w3.drew _)) (by simp [Value.oneCell']) (by unfold maxLen; omega) (by omega) (by have := HS3.out.base; simp; omega) ?_
                    intro v62 w62 ho62 hg62 hv62
                    obtain ⟨a62, l62, c62, rfl⟩ := own_slice ho62
                    have HV62 : Hid (∀ z, (Value.slice a62 l62 c62).ownBlock = some z → (Value.slice a33 l33 c33).ownBlock = some z ∨ w3.heap.size ≤ z) := fun z hz => (hv62 z hz).imp id (fun h => by simp at h; omega)
                    have HK62 : Hid (Keep (fun z => (Value.slice a33 l33 c33).ownBlock = some z) w3 w62) := Keep.grown (by (repeat (first | exact Keep.refl _ _ | exact Keep.refl _ _ | refine Keep.drew ?_ | refine Keep.drewN ?_ _ | refine Keep.alloc ?_ _ | refine Keep.setNew ?_ (by omega) _)); done) hg62 (fun x h1 h2 => h1)
                    have HO62 : Hid (OwnL bkE w62 B 55 (.slice a62 l62 c62) (rmT T i ++ [⟨a, j⟩])) := own_conv ho62 (by simp) (by rw [bkE.cs_append, bkE.cs_one]; rfl) (Nat.le_refl _)
                    clear ho62 hg62 hv62
                    refine hK.out _ _ (.inr (by (refine keepS3 (S := fun z => (Value.slice a33 l33 c33).ownBlock = some z) ?_ (own_ne46 HS3.out) HN7.out z2 fz d0; (repeat (first | exact HK62.out | exact Keep.refl _ _ | refine Keep.drew ?_ | refine Keep.drewN ?_ _ | refine Keep.alloc ?_ _ | refine Keep.setNew ?_ (by omega) _)); done))) (fun hS10 => ?_)
                    replace hS10 := hS10.resolve_left (by decide)
                    try simp only [Act.put, List.setIfInBounds_toArray, List.set_cons_zero, List.set_cons_succ]
                    refine wpAnyL_ready (rs := [11]) (by kernel_rfl) (by simp) ?_
                    refine AllReadyL.cons (o := { dst := some 63, op := Go.Op.nilCheck (Go.Operand.tmp 52), type := 0, pos := "law.go:41", after := #[{ on := 0, ground := Go.Ground.data }, { on := 0, ground := Go.Ground.phase }, { on := 1, ground := Go.Ground.phase }, { on := 2, ground := Go.Ground.phase }, { on := 3, ground := Go.Ground.phase }, { on := 4, ground := Go.Ground.phase }, { on := 5, ground := Go.Ground.phase }, { on := 6, ground := Go.Ground.phase }, { on := 7, ground := Go.Ground.phase }, { on := 8, ground := Go.Ground.phase }, { on := 9, ground := Go.Ground.phase }, { on := 10, ground := Go.Ground.phase }], guard := none }) rfl (fun K hK => ?_) ?_
                    · go_simp
                      refine hK.out _ _ (.inr (by (refine keepS3 (S := fun z => (Value.slice a33 l33 c33).ownBlock = some z) ?_ (own_ne46 HS3.out) HN7.out z2 fz d0; (repeat (first | exact HK62.out | exact Keep.refl _ _ | refine Keep.drew ?_ | refine Keep.drewN ?_ _ | refine Keep.alloc ?_ _ | refine Keep.setNew ?_ (by omega) _)); done))) (fun hS11 => ?_)
                      replace hS11 := hS11.resolve_left (by decide)
                      try simp only [Act.put, List.setIfInBounds_toArray, List.set_cons_zero, List.set_cons_succ]
                      refine wpAnyL_take 12 (oi := { dst := some 64, op := Go.Op.fieldAddr 46 (Go.Operand.tmp 63) 2, type := 0, pos := "law.go:41", after := #[{ on := 11, ground := Go.Ground.data }, { on := 0, ground := Go.Ground.phase }, { on := 1, ground := Go.Ground.phase }, { on := 2, ground := Go.Ground.phase }, { on := 3, ground := Go.Ground.phase }, { on := 4, ground := Go.Ground.phase }, { on := 5, ground := Go.Ground.phase }, { on := 6, ground := Go.Ground.phase }, { on := 7, ground := Go.Ground.phase }, { on := 8, ground := Go.Ground.phase }, { on := 9, ground := Go.Ground.phase }, { on := 10, ground := Go.Ground.phase }], guard := none }) (v := ?_) rfl (by kernel_rfl) (by kernel_rfl) (by kernel_rfl) (by kernel_rfl) (fun _ _ _ h => h) (Or.inl ⟨by rfl, ?_⟩) (by assumption) ?_
                      rotate_left
                      · (intro w hSw; (try dsimp only at hSw); go_split_ands; go_simp; try (with_reducible rfl))
                      simp only [Act.put, List.setIfInBounds_toArray, List.set_cons_zero, List.set_cons_succ]
                      refine wpAnyL_ready (rs := [13]) (by kernel_rfl) (by simp) ?_
                      refine AllReadyL.cons (o := { dst := none, op := Go.Op.store 43 (Go.Operand.tmp 64) (Go.Operand.tmp 62), type := 0, pos := "law.go:41", after := #[{ on := 12, ground := Go.Ground.data }, { on := 10, ground := Go.Ground.data }, { on := 10, ground := Go.Ground.chain }, { on := 0, ground := Go.Ground.phase }, { on := 1, ground := Go.Ground.phase }, { on := 2, ground := Go.Ground.phase }, { on := 3, ground := Go.Ground.phase }, { on := 4, ground := Go.Ground.phase }, { on := 5, ground := Go.Ground.phase }, { on := 6, ground := Go.Ground.phase }, { on := 7, ground := Go.Ground.phase }, { on := 8, ground := Go.Ground.phase }, { on := 9, ground := Go.Ground.phase }, { on := 10, ground := Go.Ground.phase }], guard := none }) rfl (fun K hK => ?_) ?_
                      · go_simp
                        refine hK.out _ _ (.inl rfl) (fun _ => ?_)
                        try simp only [Act.put, List.setIfInBounds_toArray, List.set_cons_zero, List.set_cons_succ]
                        refine wpAnyL_done (by kernel_rfl) ?_ _
                        refine NoPanic.normal ?_
                        have hput := HS3.out.putO HK62.out HO62.out HV62.out
                        have HB9' : Hid ((w62.setCell ⟨q, 2, none⟩ (.slice a62 l62 c62)).heap[w2.heap.size]? = some (.cells #[.int .i64 (A : Int), .int .i64 (j : Int)] 55 (0, 0))) := by
                          unfold Hid
                          rw [heap_setCell_ne (typ_ne HB9.out HS3.out.2.1 (by decide))]
                          exact (HK62.out.block _ (block_lt HB9.out) HN9.out).trans HB9.out
                        have HS4 := Lib.hid hput.1
                        have HU4 := Lib.hid hput.2
                        clear hput z0 z1 z2 fz d0 d1
                        generalize w62.setCell ⟨q, 2, none⟩ (.slice a62 l62 c62) = w4 at HB9' HS4 HU4 ⊢
                        obtain ⟨y0, y1, y2⟩ := cells3 HS4.out.2.1
                        obtain ⟨e0, e1⟩ := cell2b HB9'.out
                        have hA1 : A % 2 ^ j = 0 := by have := HA.out; have := HP.out; have h1 := mod_of_le (Nat.le_succ j) hak; subst this; rw [← HA.out, Nat.add_mod_right]; exact h1
                        have hA2 : A + 2 ^ j ≤ n := by have := HA.out; have := HP.out; omega
                        have hA3 : ∀ z, A ≤ z → z < A + 2 ^ j → F z = false := fun z h1 h2 => HT.out.no _ (List.mem_cons_self ..) z ((inT_iff _ _ _).mpr ⟨by have := HA.out; omega, by have := HA.out; have := HP.out; omega⟩)
                        have HAA := Lib.hid (And.intro hA1 (And.intro hA2 hA3))
                        have HY : Hid (w4.cell? ⟨q, 0, none⟩ = some (.pointer (some ⟨p, 0, none⟩)) ∧ w4.cell? ⟨q, 1, none⟩ = some (.pointer (some ⟨x, 0, none⟩)) ∧ w4.cell? ⟨w2.heap.size, 0, none⟩ = some (.int .i64 (A : Int))) := Lib.hid ⟨y0, y1, e0⟩
                        clear hA1 hA2 hA3 hak han y2 e1
                        go_wp2
                        go_region_held3 (fun w' => w'.cell? ⟨q, 0, none⟩ = some (.pointer (some ⟨p, 0, none⟩)) ∧ w'.cell? ⟨q, 1, none⟩ = some (.pointer (some ⟨x, 0, none⟩)) ∧ w'.cell? ⟨w2.heap.size, 0, none⟩ = some (.int .i64 (A : Int)))
                          (first | exact HC6.out | exact HC5.out | exact HY.out)
                          (first | (go_at_call 22; refine (pair_ok (HS4.out.1.keep0 (by (repeat (first | exact Keep.refl _ _ | exact Keep.refl _ _ | refine Keep.drew ?_ | refine Keep.drewN ?_ _ | refine Keep.alloc ?_ _ | refine Keep.setNew ?_ (by omega) _)); done)) (by omega) HAA.out.1 HAA.out.2.1 HAA.out.2.2).mono ?_; rintro e w5 ⟨rfl, hx5, hk5⟩; have HX5 := Lib.hid hx5; have HK5 : Hid (KT B p g w4 w5) := kt_on (by (repeat (first | exact Keep.refl _ _ | exact Keep.refl _ _ | refine Keep.drew ?_ | refine Keep.drewN ?_ _ | refine Keep.alloc ?_ _ | refine Keep.setNew ?_ (by omega) _)); done) hk5; have HC5 := Lib.hid (two_up (kt_block HS4.out.1 HK5.out HS4.out.2.1 (by decide)) (kt_block HS4.out.1 HK5.out HB9'.out (by decide))); clear hx5 hk5) | (go_at_call 34; refine (HX5.out _ (by (repeat (first | exact Keep.refl _ _ | exact Keep.refl _ _ | refine Keep.drew ?_ | refine Keep.drewN ?_ _ | refine Keep.alloc ?_ _ | refine Keep.setNew ?_ (by omega) _)); done)).mono ?_; rintro e w6 ⟨rfl, ht6, hk6⟩; have HT6 := Lib.hid ht6; have HK6 : Hid (KT B p g w4 w6) := kt_on (by (repeat (first | exact Keep.refl _ _ | exact Keep.refl _ _ | refine Keep.drew ?_ | refine Keep.drewN ?_ _ | refine Keep.alloc ?_ _ | refine Keep.setNew ?_ (by omega) _)); done) hk6; have HC6 := Lib.hid (two_up (kt_block HS4.out.1 HK6.out HS4.out.2.1 (by decide)) (kt_block HS4.out.1 HK6.out HB9'.out (by decide))); clear ht6 hk6))
                        all_goals
                          go_wp2
                          go_ret
                          refine ⟨rfl, _, _, ⟨_, HS4.out.on HK6.out HT6.out, ?_⟩, ?_, ?_, ?_⟩
                          · have h := HTH.out
                            rw [HP.out, HA.out] at h
                            exact h.perm (List.perm_append_comm (l₁ := [_]))
                          · simp; omega
                          · rw [cnt_add HAA.out.2.1 HAA.out.2.2]; have := p2 j; omega
                          · exact (UpO.trans (UpO.of HK1.out) HU2.out).trans ((UpO.of HK3.out).trans (HU4.out.trans (UpO.kt HS4.out.1 HK6.out)))
                      exact AllReadyL.nil
                    exact AllReadyL.nil
                  exact AllReadyL.nil
                exact AllReadyL.nil
            · obtain ⟨hk8', hak, han⟩ := HOK.out
              have hn1 := HS2.out.1.1.n1024
              obtain ⟨d0, d1⟩ := cell2b HB8.out
              obtain ⟨y0, y1, y2⟩ := cells3 HS2.out.2.1
              have hA3 : ∀ z, a ≤ z → z < a + 2 ^ k → F z = false := fun z h1 h2 => HT.out.no _ (List.mem_cons_self ..) z ((inT_iff _ _ _).mpr ⟨h1, h2⟩)
              have HAA := Lib.hid (And.intro hak (And.intro han hA3))
              have HY : Hid (w2.cell? ⟨q, 0, none⟩ = some (.pointer (some ⟨p, 0, none⟩)) ∧ w2.cell? ⟨q, 1, none⟩ = some (.pointer (some ⟨x, 0, none⟩)) ∧ w2.cell? ⟨b7, 0, none⟩ = some (.int .i64 (a : Int)) ∧ w2.cell? ⟨b7, 1, none⟩ = some (.int .i64 (k : Int))) := Lib.hid ⟨y0, y1, d0, d1⟩
              have hcase : half = false ∨ (half = true ∧ k = 0) := by
                cases half
                · exact .inl rfl
                · exact .inr ⟨rfl, by simpa using hh⟩
              clear hA3 hak han y2 hh
              have kp : half = true → decide (0 < (k : Int)) = false ∧ decide (0 < k) = false := fun e => by
                rcases hcase with h | ⟨h, h0⟩
                · rw [h] at e; cases e
                · subst h0; exact ⟨rfl, rfl⟩
              clear hcase
              cases half
              all_goals
                first | (obtain ⟨kp1, kp2⟩ := kp rfl; clear kp) | clear kp
                go_wp2
                go_region_held3 (fun w' => w'.cell? ⟨q, 0, none⟩ = some (.pointer (some ⟨p, 0, none⟩)) ∧ w'.cell? ⟨q, 1, none⟩ = some (.pointer (some ⟨x, 0, none⟩)) ∧ w'.cell? ⟨b7, 0, none⟩ = some (.int .i64 (a : Int)) ∧ w'.cell? ⟨b7, 1, none⟩ = some (.int .i64 (k : Int)))
                  (first | exact HC6.out | exact HC5.out | exact HY.out)
                  (first | (go_at_call 22; refine (pair_ok (HS2.out.1.keep0 (by (repeat (first | exact Keep.refl _ _ | exact Keep.refl _ _ | refine Keep.drew ?_ | refine Keep.drewN ?_ _ | refine Keep.alloc ?_ _ | refine Keep.setNew ?_ (by omega) _)); done)) hk8' HAA.out.1 HAA.out.2.1 HAA.out.2.2).mono ?_; rintro e w5 ⟨rfl, hx5, hk5⟩; have HX5 := Lib.hid hx5; have HK5 : Hid (KT B p g w2 w5) := kt_on (by (repeat (first | exact Keep.refl _ _ | exact Keep.refl _ _ | refine Keep.drew ?_ | refine Keep.drewN ?_ _ | refine Keep.alloc ?_ _ | refine Keep.setNew ?_ (by omega) _)); done) hk5; have HC5 := Lib.hid (two_up4 (kt_block HS2.out.1 HK5.out HS2.out.2.1 (by decide)) (kt_block HS2.out.1 HK5.out HB8.out (by decide))); clear hx5 hk5) | (go_at_call 34; refine (HX5.out _ (by (repeat (first | exact Keep.refl _ _ | exact Keep.refl _ _ | refine Keep.drew ?_ | refine Keep.drewN ?_ _ | refine Keep.alloc ?_ _ | refine Keep.setNew ?_ (by omega) _)); done)).mono ?_; rintro e w6 ⟨rfl, ht6, hk6⟩; have HT6 := Lib.hid ht6; have HK6 : Hid (KT B p g w2 w6) := kt_on (by (repeat (first | exact Keep.refl _ _ | exact Keep.refl _ _ | refine Keep.drew ?_ | refine Keep.drewN ?_ _ | refine Keep.alloc ?_ _ | refine Keep.setNew ?_ (by omega) _)); done) hk6; have HC6 := Lib.hid (two_up4 (kt_block HS2.out.1 HK6.out HS2.out.2.1 (by decide)) (kt_block HS2.out.1 HK6.out HB8.out (by decide))); clear ht6 hk6))
                all_goals
                  go_wp2
                  go_ret
                  refine ⟨rfl, _, _, ⟨_, HS2.out.on HK6.out HT6.out, HT.out.add⟩, by omega, ?_, ?_⟩
                  · rw [cnt_add HAA.out.2.1 HAA.out.2.2]; have := p2 k; omega
                  · exact (UpO.trans (UpO.of HK1.out) HU2.out).trans (UpO.kt HS2.out.1 HK6.out)
          exact AllReadyL.nil
        exact AllReadyL.nil
      exact AllReadyL.nil
    exact AllReadyL.nil
  exact AllReadyL.nil

end Go.Proofs.Ytcbkfilhgeeebaa
