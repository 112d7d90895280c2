/- Reservations: Make, Break, nil ones. -/
import Derived.Test.YtmbgebmhdofdaaaC
import Derived.Test.YtmbgebmhdofdaaaD
set_option linter.unusedVariables false
set_option linter.unusedSimpArgs false
namespace Go.Proofs.Ytmbgebmhdofdaaa
open Go.RowKit Go.Own

section
variable {α : Type} {E : Enc α} {w : World} {B : Nat} {P : Program} {t e : TypeId} {z : Value} {bytes : Nat} {v : Value} {L : List α}
/-- v[:len(v):len(v)]. -/
theorem sl_full (T : ET P t e z E.k bytes) (h : OwnL E w B e v L) :
    ∃ ao : Option Addr, (∀ W, (Instr.slice t v none (some (.int .i64 (L.length : Int))) (some (.int .i64 (L.length : Int)))).run P W = .ok (.slice ao L.length L.length) W) ∧ (ao = none → L.length = 0 ∧ L.length = 0) ∧
      (∀ b, ao = some b → b.block < w.heap.size ∧ v.ownBlock = some b.block ∧ ∀ j x, (E.cs L)[j]? = some x → w.cell? (b.add j) = some x) := by
  obtain ⟨e1, e2⟩ := T.elem
  have hu : P.underlying t = some (.slice (P.elem t)) := by rw [e1]; exact T.ht
  rcases h.any with ⟨rfl, rfl⟩ | ⟨g, cap, rfl, hB, hc, hm, hg⟩
  · refine ⟨none, fun W => ?_, (fun _ => ⟨rfl, rfl⟩), (fun b hb => nomatch hb)⟩
    rw [run_slice_hm W t none 0 0 hu .i64 .i64 _ _ (by omega) (by omega) (by simp), e1, e2]; simp [sliced, Result.andThen]
  · refine ⟨some ⟨g, 0, none⟩, fun W => ?_, (fun h => nomatch h), fun b hb => ?_⟩
    · rw [run_slice_hm W t _ _ _ hu .i64 .i64 _ _ (by omega) (by omega) (by omega), e1, e2]
      simp only [sliced, Result.andThen, Int.toNat_natCast]
      split <;> simp [Addr.add]
    · obtain rfl : (⟨g, 0, none⟩ : Addr) = b := by simpa using hb
      refine ⟨hg, rfl, fun j x hj => World.ownsRow.cells h rfl j x hj⟩
end

theorem keep_cellA {S : Nat → Prop} {w w' : World} (h : Keep S w w') {b : Addr} {j : Nat} (hb : b.block < w.heap.size) (hs : ¬ S b.block) : w'.cell? (b.add j) = w.cell? (b.add j) := by
  have e : (b.add j).block = b.block := by unfold Addr.add; split <;> rfl
  exact World.cell?_of_block (w := w) (h.block _ (by rw [e]; exact hb) (by rw [e]; exact hs))

theorem pow_lt8 (x : Nat) : 2 ^ (x % 8) < 256 := by
  have h8 : x % 8 ≤ 7 := by have := Nat.mod_lt x (show 0 < 8 by decide); omega
  have := Nat.pow_le_pow_right (show 0 < 2 by decide) h8
  omega


theorem or_lt {a b : Nat} (ha : a < 256) (hb : b < 256) : a ||| b < 256 := Nat.or_lt_two_pow (n := 8) (by omega) (by omega)


set_option maxHeartbeats 400000 in
theorem make_nil (s y f : Int) (w : World) : Calls Try.prog 13 #[.pointer none, .int .i64 s, .int .i64 y, .int .i64 f] w fun e w' => e = .returned (.int .i64 1) ∧ w = w' := by
  go_enter Try.func13, Try.ntmps13
  go_wp2
  go_ret
  exact ⟨rfl, rfl⟩
set_option maxHeartbeats 400000 in
theorem fill_nil (s y : Int) (w : World) : Calls Try.prog 14 #[.pointer none, .int .i64 s, .int .i64 y] w fun e w' => e = .returned (.tuple #[.int .i64 0, .int .i64 1]) ∧ w = w' := by
  go_enter Try.func14, Try.ntmps14
  go_wp2
  go_ret2
  exact ⟨rfl, rfl⟩
set_option maxHeartbeats 400000 in
theorem clear_nil (s y : Int) (w : World) : Calls Try.prog 15 #[.pointer none, .int .i64 s, .int .i64 y] w fun e w' => e = .returned (.int .i64 1) ∧ w = w' := by
  go_enter Try.func15, Try.ntmps15
  go_wp2
  go_ret
  exact ⟨rfl, rfl⟩
set_option maxHeartbeats 400000 in
theorem break_nil (s y : Int) (w : World) : Calls Try.prog 16 #[.pointer none, .int .i64 s, .int .i64 y] w fun e w' => e = .returned (.tuple #[.slice none 0 0, .int .i64 1]) ∧ w = w' := by
  go_enter Try.func16, Try.ntmps16
  go_wp2
  go_ret2
  exact ⟨rfl, rfl⟩
set_option maxHeartbeats 400000 in
theorem find_nil (s y : Int) (w : World) : Calls Try.prog 23 #[.pointer none, .int .i64 s, .int .i64 y] w fun e w' => e = .returned (.tuple #[rvV rv0, .bool false]) ∧ Keep (fun _ => False) w w' := by
  go_enter Try.func23, Try.ntmps23
  go_wp2
  exact bodyPost_ret (v := .tuple #[rvV rv0, .bool false]) (by simp [results, Try.results23, go_sem, rvV, rv0]) rfl ⟨rfl, (by (repeat (first | exact Keep.refl _ _ | exact Keep.refl _ _ | refine Keep.drew ?_ | refine Keep.drewN ?_ _ | refine Keep.alloc ?_ _ | refine Keep.setNew ?_ (by omega) _)); done)⟩
set_option maxHeartbeats 400000 in
theorem owner_nil (f : Int) (w : World) : Calls Try.prog 24 #[.pointer none, .int .i64 f] w fun e w' => e = .returned (.tuple #[rvV rv0, .bool false]) ∧ Keep (fun _ => False) w w' := by
  go_enter Try.func24, Try.ntmps24
  go_wp2
  exact bodyPost_ret (v := .tuple #[rvV rv0, .bool false]) (by simp [results, Try.results24, go_sem, rvV, rv0]) rfl ⟨rfl, (by (repeat (first | exact Keep.refl _ _ | exact Keep.refl _ _ | refine Keep.drew ?_ | refine Keep.drewN ?_ _ | refine Keep.alloc ?_ _ | refine Keep.setNew ?_ (by omega) _)); done)⟩
set_option maxHeartbeats 400000 in
theorem oldest_nil (w : World) : Calls Try.prog 17 #[.pointer none] w fun e w' => e = .returned (.tuple #[rvV rv0, .bool false]) ∧ Keep (fun _ => False) w w' := by
  go_enter Try.func17, Try.ntmps17
  go_wp2
  exact bodyPost_ret (v := .tuple #[rvV rv0, .bool false]) (by simp [results, Try.results17, go_sem, rvV, rv0]) rfl ⟨rfl, (by (repeat (first | exact Keep.refl _ _ | exact Keep.refl _ _ | refine Keep.drew ?_ | refine Keep.drewN ?_ _ | refine Keep.alloc ?_ _ | refine Keep.setNew ?_ (by omega) _)); done)⟩

set_option maxHeartbeats 1000000 in
theorem owner_none (B p : Nat) (v : Value) (f : Nat) (hf : f < 1024) (w : World) (hR : RepR w B p v []) : Calls Try.prog 24 #[.pointer (some ⟨p, 0, none⟩), .int .i64 f] w fun e w' => e = .returned (.tuple #[rvV rv0, .bool false]) ∧ Keep (fun _ => False) w w' := by
  have hc0 := hR.c0
  have hpl := block_lt hR.hp
  obtain ⟨a, c, rfl, -⟩ := hR.hv.slice
  go_enter Try.func24, Try.ntmps24
  go_wp2_with (go_at_call 35; go_loud (refine (down_any f hf _).mono ?_; rintro e w1 ⟨rfl, rfl⟩))
  refine wp_loop_once ?_
  go_wp2
  exact bodyPost_ret (v := .tuple #[rvV rv0, .bool false]) (by simp [results, Try.results24, go_sem, rvV, rv0]) rfl ⟨rfl, (by (repeat (first | exact Keep.refl _ _ | exact Keep.refl _ _ | refine Keep.drew ?_ | refine Keep.drewN ?_ _ | refine Keep.alloc ?_ _ | refine Keep.setNew ?_ (by omega) _)); done)⟩

theorem sM {w W : World} {p : Nat} {v : Value} (h : Keep (fun _ => False) w W) (h2 : w.cell? ⟨p, 0, none⟩ = some v) (h3 : w.frozen? ⟨p, 0, none⟩ = false) :
    W.cell? ⟨p, 0, none⟩ = some v ∧ W.frozen? ⟨p, 0, none⟩ = false := ⟨(h.cell (block_lt_cell h2) id).trans h2, (h.frozen (block_lt_cell h2) id).trans h3⟩

theorem row_new {W : World} {e : TypeId} {cs : List Value} (j : Nat) (y : Value) (h : cs[j]? = some y) : (W.alloc (.cells cs.toArray e)).cell? ((⟨W.heap.size, 0, none⟩ : Addr).add j) = some y := by
  rw [Addr.add_lit, Nat.zero_add, cell_block (heap_alloc_new W _)]; simpa using h

set_option maxRecDepth 100000 in
set_option maxHeartbeats 2000000 in
theorem make_first (B p : Nat) (v : Value) (s : Int) (y f : Nat) (hs : 0 ≤ s) (hy : y < 1024 ∧ y / 8 * 8 = y) (hf : f ≤ 1016 ∧ f / 8 * 8 = f) (w : World) (hB : B ≤ w.heap.size) (hR : RepR w B p v []) :
    Calls Try.prog 13 #[.pointer (some ⟨p, 0, none⟩), .int .i64 s, .int .i64 y, .int .i64 f] w fun e w' => ∃ v', e = .returned (.int .i64 0) ∧ RepR w' B p v' [⟨s, y, f, 0⟩] ∧ Keep (fun z => z = p) w w' ∧ (∀ z, v'.ownBlock = some z → w.heap.size ≤ z) := by
  have he1 : decide (y / 8 * 8 = y) = true := by simpa using hy.2
  have he2 : decide (f / 8 * 8 = f) = true := by simpa using hf.2
  have hy1 := hy.1
  have hf1 := hf.1
  have hf2 : f < 1024 := by omega
  go_enter Try.func13, Try.ntmps13
  go_wp2_with (first | (go_at_call 30; go_loud (refine (even_any _ (by assumption) _).mono ?_; (first | rw [he1] | rw [he2]); rintro e w1 ⟨rfl, rfl⟩)) | (go_at_call 24; go_loud (refine (owner_none B p v f (by omega) _ hR).mono ?_; unfold rvV rv0; rintro e w2 ⟨rfl, hk2⟩; have K2 : Hid (Keep (fun _ => False) w (w2.alloc (.cells #[.int .i64 0, .int .i64 0, .int .i64 0, .int .u8 0] 31))) := hk2.alloc _; clear hk2)) | (go_at_call 31; go_loud (refine (where_none B p v s y hy1 _ (hR.keep0 K2.out)).mono ?_; rintro e w3 ⟨rfl, hk3⟩; have K3 := Lib.hid (K2.out.trans hk3); clear hk3)))
  have HR3 := Lib.hid (hR.keep0 K3.out)
  have hc0 := HR3.out.c0
  have fz : w3.frozen? ⟨p, 0, none⟩ = false := frozen_block HR3.out.hp
  obtain ⟨au, cu, rfl, -⟩ := hR.hv.slice
  obtain ⟨ao, hsl, hao, hcs⟩ := sl_full et28 HR3.out.hv
  have HAO := Lib.hid hao
  have hs3 := K3.out.size
  clear hao hcs
  obtain ⟨i0, hi, hz0, hz1, hz2⟩ := info_parts et28.hi
  have HI := Lib.hid hi
  have HZ := Lib.hid (And.intro hz0 (And.intro hz1 hz2))
  clear hi hz0 hz1 hz2
  simp only [List.length_nil, Int.cast_ofNat_Int] at hsl hc0
  refine wp_region_noPanic ?_
  refine wp_region_L (fun w' => w'.cell? ⟨p, 0, none⟩ = some (.slice au 0 cu) ∧ w'.frozen? ⟨p, 0, none⟩ = false) 24 (by kernel_rfl) (by (refine sM ?_ hc0 fz; (repeat (first | exact HK77.out | exact Keep.refl _ _ | refine Keep.drew ?_ | refine Keep.drewN ?_ _ | refine Keep.alloc ?_ _ | refine Keep.setNew ?_ (by omega) _)); done)) (fun hS0 => ?_)
  refine wpAnyL_take 0 (oi := { dst := some 56, op := Go.Op.move (Go.Operand.tmp 0), type := 23, pos := "resv.go:50", after := #[], guard := none }) (v := ?_) rfl (by kernel_rfl) (by kernel_rfl) (by kernel_rfl) (by kernel_rfl) (fun _ _ _ h => h) (Or.inl ⟨by rfl, ?_⟩) (by assumption) ?_
  rotate_left
  · (intro w hSw; (try dsimp only at hSw); go_split_ands; go_simp; try (with_reducible rfl))
  simp only [Act.put, List.setIfInBounds_toArray, List.set_cons_zero, List.set_cons_succ]
  refine wpAnyL_take 1 (oi := { dst := some 57, op := Go.Op.move (Go.Operand.tmp 0), type := 23, pos := "resv.go:50", after := #[], guard := none }) (v := ?_) rfl (by kernel_rfl) (by kernel_rfl) (by kernel_rfl) (by kernel_rfl) (fun _ _ _ h => h) (Or.inl ⟨by rfl, ?_⟩) (by assumption) ?_
  rotate_left
  · (intro w hSw; (try dsimp only at hSw); go_split_ands; go_simp; try (with_reducible rfl))
  simp only [Act.put, List.setIfInBounds_toArray, List.set_cons_zero, List.set_cons_succ]
  refine wpAnyL_take 2 (oi := { dst := some 58, op := Go.Op.nilCheck (Go.Operand.tmp 57), type := 0, pos := "resv.go:50", after := #[{ on := 1, ground := Go.Ground.data }], guard := none }) (v := ?_) rfl (by kernel_rfl) (by kernel_rfl) (by kernel_rfl) (by kernel_rfl) (fun _ _ _ h => h) (Or.inl ⟨by rfl, ?_⟩) (by assumption) ?_
  rotate_left
  · (intro w hSw; (try dsimp only at hSw); go_split_ands; go_simp; try (with_reducible rfl))
  simp only [Act.put, List.setIfInBounds_toArray, List.set_cons_zero, List.set_cons_succ]
  refine wpAnyL_take 3 (oi := { dst := some 59, op := Go.Op.fieldAddr 64 (Go.Operand.tmp 58) 0, type := 0, pos := "resv.go:50", after := #[{ on := 2, ground := Go.Ground.data }], guard := none }) (v := ?_) rfl (by kernel_rfl) (by kernel_rfl) (by kernel_rfl) (by kernel_rfl) (fun _ _ _ h => h) (Or.inl ⟨by rfl, ?_⟩) (by assumption) ?_
  rotate_left
  · (intro w hSw; (try dsimp only at hSw); go_split_ands; go_simp; try (with_reducible rfl))
  simp only [Act.put, List.setIfInBounds_toArray, List.set_cons_zero, List.set_cons_succ]
  refine wpAnyL_take 4 (oi := { dst := some 60, op := Go.Op.load 28 (Go.Operand.tmp 59), type := 28, pos := "resv.go:50", after := #[{ on := 3, ground := Go.Ground.data }], guard := none }) (v := ?_) rfl (by kernel_rfl) (by kernel_rfl) (by kernel_rfl) (by kernel_rfl) (fun _ _ _ h => h) (Or.inl ⟨by rfl, ?_⟩) (by assumption) ?_
  rotate_left
  · (intro w hSw; (try dsimp only at hSw); go_split_ands; go_simp; try (with_reducible rfl))
  simp only [Act.put, List.setIfInBounds_toArray, List.set_cons_zero, List.set_cons_succ]
  refine wpAnyL_take 5 (oi := { dst := some 61, op := Go.Op.move (Go.Operand.tmp 0), type := 23, pos := "resv.go:50", after := #[], guard := none }) (v := ?_) rfl (by kernel_rfl) (by kernel_rfl) (by kernel_rfl) (by kernel_rfl) (fun _ _ _ h => h) (Or.inl ⟨by rfl, ?_⟩) (by assumption) ?_
  rotate_left
  · (intro w hSw; (try dsimp only at hSw); go_split_ands; go_simp; try (with_reducible rfl))
  simp only [Act.put, List.setIfInBounds_toArray, List.set_cons_zero, List.set_cons_succ]
  refine wpAnyL_take 6 (oi := { dst := some 62, op := Go.Op.nilCheck (Go.Operand.tmp 61), type := 0, pos := "resv.go:50", after := #[{ on := 5, ground := Go.Ground.data }], guard := none }) (v := ?_) rfl (by kernel_rfl) (by kernel_rfl) (by kernel_rfl) (by kernel_rfl) (fun _ _ _ h => h) (Or.inl ⟨by rfl, ?_⟩) (by assumption) ?_
  rotate_left
  · (intro w hSw; (try dsimp only at hSw); go_split_ands; go_simp; try (with_reducible rfl))
  simp only [Act.put, List.setIfInBounds_toArray, List.set_cons_zero, List.set_cons_succ]
  refine wpAnyL_take 7 (oi := { dst := some 63, op := Go.Op.fieldAddr 64 (Go.Operand.tmp 62) 0, type := 0, pos := "resv.go:50", after := #[{ on := 6, ground := Go.Ground.data }], guard := none }) (v := ?_) rfl (by kernel_rfl) (by kernel_rfl) (by kernel_rfl) (by kernel_rfl) (fun _ _ _ h => h) (Or.inl ⟨by rfl, ?_⟩) (by assumption) ?_
  rotate_left
  · (intro w hSw; (try dsimp only at hSw); go_split_ands; go_simp; try (with_reducible rfl))
  simp only [Act.put, List.setIfInBounds_toArray, List.set_cons_zero, List.set_cons_succ]
  refine wpAnyL_take 8 (oi := { dst := some 64, op := Go.Op.load 28 (Go.Operand.tmp 63), type := 28, pos := "resv.go:50", after := #[{ on := 7, ground := Go.Ground.data }], guard := none }) (v := ?_) rfl (by kernel_rfl) (by kernel_rfl) (by kernel_rfl) (by kernel_rfl) (fun _ _ _ h => h) (Or.inl ⟨by rfl, ?_⟩) (by assumption) ?_
  rotate_left
  · (intro w hSw; (try dsimp only at hSw); go_split_ands; go_simp; try (with_reducible rfl))
  simp only [Act.put, List.setIfInBounds_toArray, List.set_cons_zero, List.set_cons_succ]
  refine wpAnyL_take 9 (oi := { dst := some 65, op := Go.Op.call { callee := Go.Callee.builtin Go.Builtin.len, args := #[Go.Operand.tmp 64], argTypes := #[28] }, type := 3, pos := "resv.go:50", after := #[{ on := 8, ground := Go.Ground.data }], guard := none }) (v := ?_) rfl (by kernel_rfl) (by kernel_rfl) (by kernel_rfl) (by kernel_rfl) (fun _ _ _ h => h) (Or.inl ⟨by rfl, ?_⟩) (by assumption) ?_
  rotate_left
  · (intro w hSw; (try dsimp only at hSw); go_split_ands; go_simp; try (with_reducible rfl))
  simp only [Act.put, List.setIfInBounds_toArray, List.set_cons_zero, List.set_cons_succ]
  refine wpAnyL_take 10 (oi := { dst := some 66, op := Go.Op.move (Go.Operand.tmp 0), type := 23, pos := "resv.go:50", after := #[], guard := none }) (v := ?_) rfl (by kernel_rfl) (by kernel_rfl) (by kernel_rfl) (by kernel_rfl) (fun _ _ _ h => h) (Or.inl ⟨by rfl, ?_⟩) (by assumption) ?_
  rotate_left
  · (intro w hSw; (try dsimp only at hSw); go_split_ands; go_simp; try (with_reducible rfl))
  simp only [Act.put, List.setIfInBounds_toArray, List.set_cons_zero, List.set_cons_succ]
  refine wpAnyL_take 11 (oi := { dst := some 67, op := Go.Op.nilCheck (Go.Operand.tmp 66), type := 0, pos := "resv.go:50", after := #[{ on := 10, ground := Go.Ground.data }], guard := none }) (v := ?_) rfl (by kernel_rfl) (by kernel_rfl) (by kernel_rfl) (by kernel_rfl) (fun _ _ _ h => h) (Or.inl ⟨by rfl, ?_⟩) (by assumption) ?_
  rotate_left
  · (intro w hSw; (try dsimp only at hSw); go_split_ands; go_simp; try (with_reducible rfl))
  simp only [Act.put, List.setIfInBounds_toArray, List.set_cons_zero, List.set_cons_succ]
  refine wpAnyL_take 12 (oi := { dst := some 68, op := Go.Op.fieldAddr 64 (Go.Operand.tmp 67) 0, type := 0, pos := "resv.go:50", after := #[{ on := 11, ground := Go.Ground.data }], guard := none }) (v := ?_) rfl (by kernel_rfl) (by kernel_rfl) (by kernel_rfl) (by kernel_rfl) (fun _ _ _ h => h) (Or.inl ⟨by rfl, ?_⟩) (by assumption) ?_
  rotate_left
  · (intro w hSw; (try dsimp only at hSw); go_split_ands; go_simp; try (with_reducible rfl))
  simp only [Act.put, List.setIfInBounds_toArray, List.set_cons_zero, List.set_cons_succ]
  refine wpAnyL_take 13 (oi := { dst := some 69, op := Go.Op.load 28 (Go.Operand.tmp 68), type := 28, pos := "resv.go:50", after := #[{ on := 12, ground := Go.Ground.data }], guard := none }) (v := ?_) rfl (by kernel_rfl) (by kernel_rfl) (by kernel_rfl) (by kernel_rfl) (fun _ _ _ h => h) (Or.inl ⟨by rfl, ?_⟩) (by assumption) ?_
  rotate_left
  · (intro w hSw; (try dsimp only at hSw); go_split_ands; go_simp; try (with_reducible rfl))
  simp only [Act.put, List.setIfInBounds_toArray, List.set_cons_zero, List.set_cons_succ]
  refine wpAnyL_take 14 (oi := { dst := some 70, op := Go.Op.call { callee := Go.Callee.builtin Go.Builtin.len, args := #[Go.Operand.tmp 69], argTypes := #[28] }, type := 3, pos := "resv.go:50", after := #[{ on := 13, ground := Go.Ground.data }], guard := none }) (v := ?_) rfl (by kernel_rfl) (by kernel_rfl) (by kernel_rfl) (by kernel_rfl) (fun _ _ _ h => h) (Or.inl ⟨by rfl, ?_⟩) (by assumption) ?_
  rotate_left
  · (intro w hSw; (try dsimp only at hSw); go_split_ands; go_simp; try (with_reducible rfl))
  simp only [Act.put, List.setIfInBounds_toArray, List.set_cons_zero, List.set_cons_succ]
  refine wpAnyL_take 15 (oi := { dst := some 71, op := Go.Op.slice 28 (Go.Operand.tmp 60) none (some (Go.Operand.tmp 65)) (some (Go.Operand.tmp 70)), type := 28, pos := "resv.go:50", after := #[{ on := 4, ground := Go.Ground.data }, { on := 9, ground := Go.Ground.data }, { on := 14, ground := Go.Ground.data }], guard := none }) (v := ?_) rfl (by kernel_rfl) (by kernel_rfl) (by kernel_rfl) (by kernel_rfl) (fun _ _ _ h => h) (Or.inl ⟨by rfl, ?_⟩) (by assumption) ?_
  rotate_left
  · (intro w hSw; (try dsimp only at hSw); go_split_ands; go_simp; try (with_reducible rfl))
  simp only [Act.put, List.setIfInBounds_toArray, List.set_cons_zero, List.set_cons_succ]
  refine wpAnyL_take 16 (oi := { dst := some 72, op := Go.Op.move (Go.Operand.tmp 1), type := 3, pos := "resv.go:50", after := #[], guard := none }) (v := ?_) rfl (by kernel_rfl) (by kernel_rfl) (by kernel_rfl) (by kernel_rfl) (fun _ _ _ h => h) (Or.inl ⟨by rfl, ?_⟩) (by assumption) ?_
  rotate_left
  · (intro w hSw; (try dsimp only at hSw); go_split_ands; go_simp; try (with_reducible rfl))
  simp only [Act.put, List.setIfInBounds_toArray, List.set_cons_zero, List.set_cons_succ]
  refine wpAnyL_take 17 (oi := { dst := some 73, op := Go.Op.move (Go.Operand.tmp 2), type := 3, pos := "resv.go:50", after := #[], guard := none }) (v := ?_) rfl (by kernel_rfl) (by kernel_rfl) (by kernel_rfl) (by kernel_rfl) (fun _ _ _ h => h) (Or.inl ⟨by rfl, ?_⟩) (by assumption) ?_
  rotate_left
  · (intro w hSw; (try dsimp only at hSw); go_split_ands; go_simp; try (with_reducible rfl))
  simp only [Act.put, List.setIfInBounds_toArray, List.set_cons_zero, List.set_cons_succ]
  refine wpAnyL_take 18 (oi := { dst := some 74, op := Go.Op.move (Go.Operand.tmp 3), type := 3, pos := "resv.go:50", after := #[], guard := none }) (v := ?_) rfl (by kernel_rfl) (by kernel_rfl) (by kernel_rfl) (by kernel_rfl) (fun _ _ _ h => h) (Or.inl ⟨by rfl, ?_⟩) (by assumption) ?_
  rotate_left
  · (intro w hSw; (try dsimp only at hSw); go_split_ands; go_simp; try (with_reducible rfl))
  simp only [Act.put, List.setIfInBounds_toArray, List.set_cons_zero, List.set_cons_succ]
  refine wpAnyL_take 19 (oi := { dst := some 75, op := Go.Op.build 31 #[(0, Go.Operand.tmp 72), (1, Go.Operand.tmp 73), (2, Go.Operand.tmp 74)], type := 31, pos := "resv.go:50", after := #[{ on := 16, ground := Go.Ground.data }, { on := 17, ground := Go.Ground.data }, { on := 18, ground := Go.Ground.data }], guard := none }) (v := ?_) rfl (by kernel_rfl) (by kernel_rfl) (by kernel_rfl) (by kernel_rfl) (fun _ _ _ h => h) (Or.inl ⟨by rfl, ?_⟩) (by assumption) ?_
  rotate_left
  · (intro w hSw; (try dsimp only at hSw); go_split_ands; go_simp; try (with_reducible rfl))
  simp only [Act.put, List.setIfInBounds_toArray, List.set_cons_zero, List.set_cons_succ]
  refine wpAnyL_ready (rs := [20]) (by kernel_rfl) (by simp) ?_
  refine AllReadyL.cons (o := { dst := some 76, op := Go.Op.buildSlice 28 1 #[(0, Go.Operand.tmp 75)], type := 28, pos := "resv.go:50", after := #[{ on := 19, ground := Go.Ground.data }], guard := none }) rfl (fun K hK => ?_) ?_
  · go_simp
    refine hK.out _ _ (.inr (by (refine sM ?_ hc0 fz; (repeat (first | exact HK77.out | exact Keep.refl _ _ | refine Keep.drew ?_ | refine Keep.drewN ?_ _ | refine Keep.alloc ?_ _ | refine Keep.setNew ?_ (by omega) _)); done))) (fun hS20 => ?_)
    replace hS20 := hS20.resolve_left (by decide)
    try simp only [Act.put, List.setIfInBounds_toArray, List.set_cons_zero, List.set_cons_succ]
    refine wpAnyL_ready (rs := [21]) (by kernel_rfl) (by simp) ?_
    refine AllReadyL.cons (o := { dst := some 77, op := Go.Op.call { callee := Go.Callee.builtin Go.Builtin.append, args := #[Go.Operand.tmp 71, Go.Operand.tmp 76], argTypes := #[28, 28] }, type := 28, pos := "resv.go:50", after := #[{ on := 15, ground := Go.Ground.data }, { on := 20, ground := Go.Ground.data }], guard := none }) rfl (fun K hK => ?_) ?_
    · refine step_append_grows rfl (.tmp 71) (.tmp 76) 28 rfl 31 i0 (.agg #[.int .i64 0, .int .i64 0, .int .i64 0, .int .u8 0]) 4 32 Try.underlying28 HI.out HZ.out.1 HZ.out.2.1 HZ.out.2.2 rfl (by decide) ao 0 0 [] (by rfl) HAO.out rfl (fun b hb j z hj => by simp at hj) ⟨w3.heap.size, 0, none⟩ 1 _ [.int .i64 s, .int .i64 y, .int .i64 f, .int .u8 0] (by rfl) rfl (fun j z hj => row_new (W := w3.drew) j z hj) (by simp [Value.oneCell']) (by omega) (by unfold maxLen; omega) (by omega) ?_
      intro v77 w77 ho77 hg77
      obtain ⟨a77, l77, c77, rfl⟩ := own_slice ho77
      have HK77 : Hid (Keep (fun _ => False) w3 w77) := Keep.grown (by (repeat (first | exact Keep.refl _ _ | exact Keep.refl _ _ | refine Keep.drew ?_ | refine Keep.drewN ?_ _ | refine Keep.alloc ?_ _ | refine Keep.setNew ?_ (by omega) _)); done) hg77 (fun x h1 h2 => by simp at h1)
      have HO77 := Lib.hid (ownsRow_base ho77 (C := w3.heap.size) (fun x hx => by have := (ho77.lt x hx).1; simp at this; omega))
      clear ho77 hg77
      refine hK.out _ _ (.inr (by (refine sM ?_ hc0 fz; (repeat (first | exact HK77.out | exact Keep.refl _ _ | refine Keep.drew ?_ | refine Keep.drewN ?_ _ | refine Keep.alloc ?_ _ | refine Keep.setNew ?_ (by omega) _)); done))) (fun hS21 => ?_)
      replace hS21 := hS21.resolve_left (by decide)
      try simp only [Act.put, List.setIfInBounds_toArray, List.set_cons_zero, List.set_cons_succ]
      refine wpAnyL_ready (rs := [22]) (by kernel_rfl) (by simp) ?_
      refine AllReadyL.cons (o := { dst := some 78, op := Go.Op.nilCheck (Go.Operand.tmp 56), type := 0, pos := "resv.go:50", after := #[{ on := 0, ground := Go.Ground.data }, { on := 0, ground := Go.Ground.phase }, { on := 1, ground := Go.Ground.phase }, { on := 2, ground := Go.Ground.phase }, { on := 3, ground := Go.Ground.phase }, { on := 4, ground := Go.Ground.phase }, { on := 5, ground := Go.Ground.phase }, { on := 6, ground := Go.Ground.phase }, { on := 7, ground := Go.Ground.phase }, { on := 8, ground := Go.Ground.phase }, { on := 9, ground := Go.Ground.phase }, { on := 10, ground := Go.Ground.phase }, { on := 11, ground := Go.Ground.phase }, { on := 12, ground := Go.Ground.phase }, { on := 13, ground := Go.Ground.phase }, { on := 14, ground := Go.Ground.phase }, { on := 15, ground := Go.Ground.phase }, { on := 16, ground := Go.Ground.phase }, { on := 17, ground := Go.Ground.phase }, { on := 18, ground := Go.Ground.phase }, { on := 19, ground := Go.Ground.phase }, { on := 20, ground := Go.Ground.phase }, { on := 21, ground := Go.Ground.phase }], guard := none }) rfl (fun K hK => ?_) ?_
      · go_simp
        refine hK.out _ _ (.inr (by (refine sM ?_ hc0 fz; (repeat (first | exact HK77.out | exact Keep.refl _ _ | refine Keep.drew ?_ | refine Keep.drewN ?_ _ | refine Keep.alloc ?_ _ | refine Keep.setNew ?_ (by omega) _)); done))) (fun hS22 => ?_)
        replace hS22 := hS22.resolve_left (by decide)
        try simp only [Act.put, List.setIfInBounds_toArray, List.set_cons_zero, List.set_cons_succ]
        refine wpAnyL_take 23 (oi := { dst := some 79, op := Go.Op.fieldAddr 64 (Go.Operand.tmp 78) 0, type := 0, pos := "resv.go:50", after := #[{ on := 22, ground := Go.Ground.data }, { on := 0, ground := Go.Ground.phase }, { on := 1, ground := Go.Ground.phase }, { on := 2, ground := Go.Ground.phase }, { on := 3, ground := Go.Ground.phase }, { on := 4, ground := Go.Ground.phase }, { on := 5, ground := Go.Ground.phase }, { on := 6, ground := Go.Ground.phase }, { on := 7, ground := Go.Ground.phase }, { on := 8, ground := Go.Ground.phase }, { on := 9, ground := Go.Ground.phase }, { on := 10, ground := Go.Ground.phase }, { on := 11, ground := Go.Ground.phase }, { on := 12, ground := Go.Ground.phase }, { on := 13, ground := Go.Ground.phase }, { on := 14, ground := Go.Ground.phase }, { on := 15, ground := Go.Ground.phase }, { on := 16, ground := Go.Ground.phase }, { on := 17, ground := Go.Ground.phase }, { on := 18, ground := Go.Ground.phase }, { on := 19, ground := Go.Ground.phase }, { on := 20, ground := Go.Ground.phase }, { on := 21, ground := Go.Ground.phase }], guard := none }) (v := ?_) rfl (by kernel_rfl) (by kernel_rfl) (by kernel_rfl) (by kernel_rfl) (fun _ _ _ h => h) (Or.inl ⟨by rfl, ?_⟩) (by assumption) ?_
        rotate_left
        · (intro w hSw; (try dsimp only at hSw); go_split_ands; go_simp; try (with_reducible rfl))
        simp only [Act.put, List.setIfInBounds_toArray, List.set_cons_zero, List.set_cons_succ]
        refine wpAnyL_ready (rs := [24]) (by kernel_rfl) (by simp) ?_
        refine AllReadyL.cons (o := { dst := none, op := Go.Op.store 28 (Go.Operand.tmp 79) (Go.Operand.tmp 77), type := 0, pos := "resv.go:50", after := #[{ on := 23, ground := Go.Ground.data }, { on := 21, ground := Go.Ground.data }, { on := 21, ground := Go.Ground.chain }, { on := 0, ground := Go.Ground.phase }, { on := 1, ground := Go.Ground.phase }, { on := 2, ground := Go.Ground.phase }, { on := 3, ground := Go.Ground.phase }, { on := 4, ground := Go.Ground.phase }, { on := 5, ground := Go.Ground.phase }, { on := 6, ground := Go.Ground.phase }, { on := 7, ground := Go.Ground.phase }, { on := 8, ground := Go.Ground.phase }, { on := 9, ground := Go.Ground.phase }, { on := 10, ground := Go.Ground.phase }, { on := 11, ground := Go.Ground.phase }, { on := 12, ground := Go.Ground.phase }, { on := 13, ground := Go.Ground.phase }, { on := 14, ground := Go.Ground.phase }, { on := 15, ground := Go.Ground.phase }, { on := 16, ground := Go.Ground.phase }, { on := 17, ground := Go.Ground.phase }, { on := 18, ground := Go.Ground.phase }, { on := 19, ground := Go.Ground.phase }, { on := 20, ground := Go.Ground.phase }, { on := 21, ground := Go.Ground.phase }], guard := none }) rfl (fun K hK => ?_) ?_
        · go_simp
          refine hK.out _ _ (.inl rfl) (fun _ => ?_)
          try simp only [Act.put, List.setIfInBounds_toArray, List.set_cons_zero, List.set_cons_succ]
          refine wpAnyL_done (by kernel_rfl) ?_ _
          refine NoPanic.normal ?_
          have hq := put_close (L' := [⟨s, y, f, 0⟩]) HR3.out (by omega) (by simp) HK77.out HO77.out (by simp) (by rw [rvE.cs_one]; first | done | rfl)
          go_wp2
          go_ret
          first | exact ⟨rfl, _, hq.1, (K3.out.mono (fun _ _ h => h.elim)).trans hq.2.1, fun z hz => by have := hq.2.2 z hz; omega⟩ | exact ⟨_, rfl, hq.1, (K3.out.mono (fun _ _ h => h.elim)).trans hq.2.1, fun z hz => by have := hq.2.2 z hz; omega⟩
        exact AllReadyL.nil
      exact AllReadyL.nil
    exact AllReadyL.nil
  exact AllReadyL.nil

end Go.Proofs.Ytmbgebmhdofdaaa
