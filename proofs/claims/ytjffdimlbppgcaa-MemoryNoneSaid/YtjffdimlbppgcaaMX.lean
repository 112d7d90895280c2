/- Memory: a nil memory; none. -/
import Derived.Test.YtjffdimlbppgcaaMR
set_option linter.unusedVariables false
set_option linter.unusedSimpArgs false
namespace Go.Proofs.Ytjffdimlbppgcaa
open Go.RowKit Go.Own

theorem mtake_nil (o x i : Int) (w : World) : Calls Try.prog 5 #[.pointer none, .int .i64 o, .int .i64 x, .int .i64 i] w fun e w' => e = .returned (.tuple #[.int .i64 0, .int .i64 1]) ∧ w' = w := by
  go_enter Try.func5, Try.ntmps5
  go_wp2
  go_ret2
  exact ⟨rfl, rfl⟩
theorem mone_nil (x i : Int) (w : World) : Calls Try.prog 4 #[.pointer none, .int .i64 x, .int .i64 i] w fun e w' => e = .returned (.tuple #[.int .i64 0, .int .i64 1]) ∧ w' = w := by
  go_enter Try.func4, Try.ntmps4
  go_wp2_with (go_at_call 5; refine (mtake_nil 0 x i _).mono ?_; rintro e w5 ⟨rfl, rfl⟩)
  go_ret2
  exact ⟨rfl, rfl⟩
theorem mcount_nil (i : Int) (w : World) : Calls Try.prog 7 #[.pointer none, .int .i64 i] w fun e w' => e = .returned (.int .i64 0) ∧ w' = w := by
  go_enter Try.func7, Try.ntmps7
  go_wp2
  go_ret
  exact ⟨rfl, rfl⟩
theorem mspare_nil (w : World) : Calls Try.prog 8 #[.pointer none] w fun e w' => e = .returned (.int .i64 0) ∧ w' = w := by
  go_enter Try.func8, Try.ntmps8
  go_wp2
  go_ret
  exact ⟨rfl, rfl⟩
theorem mfree_nil (w : World) : Calls Try.prog 9 #[.pointer none] w fun e w' => e = .returned (.int .i64 0) ∧ w' = w := by
  go_enter Try.func9, Try.ntmps9
  go_wp2
  go_ret
  exact ⟨rfl, rfl⟩
theorem mblocks_nil (w : World) : Calls Try.prog 10 #[.pointer none] w fun e w' => e = .returned (.slice none 0 0) ∧ w' = w := by
  go_enter Try.func10, Try.ntmps10
  go_wp2
  go_ret
  exact ⟨rfl, rfl⟩
theorem mat_nil (f o i : Int) (w : World) : Calls Try.prog 11 #[.pointer none, .int .i64 f, .int .i64 o, .int .i64 i] w fun e w' => e = .returned (.int .i64 1) ∧ w' = w := by
  go_enter Try.func11, Try.ntmps11
  go_wp2
  go_ret
  exact ⟨rfl, rfl⟩
theorem mdrop_nil (f o : Int) (w : World) : Calls Try.prog 12 #[.pointer none, .int .i64 f, .int .i64 o] w fun e w' => e = .returned (.int .i64 1) ∧ w' = w := by
  go_enter Try.func12, Try.ntmps12
  go_wp2
  go_ret
  exact ⟨rfl, rfl⟩
theorem mturn_nil (f n a b : Int) (w : World) : Calls Try.prog 13 #[.pointer none, .int .i64 f, .int .i64 n, .int .i64 a, .int .i64 b] w fun e w' => e = .returned (.int .i64 1) ∧ w' = w := by
  go_enter Try.func13, Try.ntmps13
  go_wp2
  go_ret
  exact ⟨rfl, rfl⟩
theorem mset_nil (f x : Int) (w : World) : Calls Try.prog 14 #[.pointer none, .int .i64 f, .int .i64 x] w fun e w' => e = .returned (.int .i64 1) ∧ w' = w := by
  go_enter Try.func14, Try.ntmps14
  go_wp2
  go_ret
  exact ⟨rfl, rfl⟩
theorem mis_nil (f : Int) (w : World) : Calls Try.prog 15 #[.pointer none, .int .i64 f] w fun e w' => e = .returned (.int .i64 (-1)) ∧ w' = w := by
  go_enter Try.func15, Try.ntmps15
  go_wp2
  go_ret
  exact ⟨rfl, rfl⟩
theorem mkind_nil (f : Int) (w : World) : Calls Try.prog 16 #[.pointer none, .int .i64 f] w fun e w' => e = .returned (.int .i64 (-1)) ∧ w' = w := by
  go_enter Try.func16, Try.ntmps16
  go_wp2
  go_ret
  exact ⟨rfl, rfl⟩
theorem mright_nil (w : World) : Calls Try.prog 17 #[.pointer none] w fun e w' => e = .returned (.bool false) ∧ w' = w := by
  go_enter Try.func17, Try.ntmps17
  go_wp2
  go_ret
  exact ⟨rfl, rfl⟩
theorem mram_nil (w : World) : Calls Try.prog 18 #[.pointer none] w fun e w' => e = .returned (.pointer none) ∧ w' = w := by
  go_enter Try.func18, Try.ntmps18
  go_wp2
  go_ret
  exact ⟨rfl, rfl⟩

set_option maxRecDepth 100000 in
set_option maxHeartbeats 1000000 in
theorem none_walk (K f o x s n : Int) (w : World) : Calls Try.prog 3 #[.agg #[.int .i64 K, .int .i64 f, .int .i64 o, .int .i64 x, .int .i64 s, .int .i64 n]] w fun e w' => e = .returned (.bool true) ∧ Below w.heap.size w w' := by
  have HBX : Hid ((w.alloc (.cells #[.int .i64 K, .int .i64 f, .int .i64 o, .int .i64 x, .int .i64 s, .int .i64 n] 23)).heap[w.heap.size]? = some (.cells #[.int .i64 K, .int .i64 f, .int .i64 o, .int .i64 x, .int .i64 s, .int .i64 n] 23 (0, 0))) := heap_alloc_new w _
  have HK1 : Hid (Keep (fun _ => False) w (w.alloc (.cells #[.int .i64 K, .int .i64 f, .int .i64 o, .int .i64 x, .int .i64 s, .int .i64 n] 23))) := (Keep.refl _ _).alloc _
  have HC : Hid ((w.alloc (.cells #[.int .i64 K, .int .i64 f, .int .i64 o, .int .i64 x, .int .i64 s, .int .i64 n] 23)).cell? ⟨w.heap.size, 1, none⟩ = some (.int .i64 f) ∧ (w.alloc (.cells #[.int .i64 K, .int .i64 f, .int .i64 o, .int .i64 x, .int .i64 s, .int .i64 n] 23)).cell? ⟨w.heap.size, 2, none⟩ = some (.int .i64 o) ∧ (w.alloc (.cells #[.int .i64 K, .int .i64 f, .int .i64 o, .int .i64 x, .int .i64 s, .int .i64 n] 23)).cell? ⟨w.heap.size, 3, none⟩ = some (.int .i64 x) ∧ (w.alloc (.cells #[.int .i64 K, .int .i64 f, .int .i64 o, .int .i64 x, .int .i64 s, .int .i64 n] 23)).cell? ⟨w.heap.size, 4, none⟩ = some (.int .i64 s) ∧ (w.alloc (.cells #[.int .i64 K, .int .i64 f, .int .i64 o, .int .i64 x, .int .i64 s, .int .i64 n] 23)).cell? ⟨w.heap.size, 5, none⟩ = some (.int .i64 n)) := by
    have := HBX.out
    refine ⟨?_, ?_, ?_, ?_, ?_⟩ <;> simp [cell_block this]
  obtain ⟨c1, c2, c3, c4, c5⟩ := HC.out
  go_enter Try.func3, Try.ntmps3
  go_wp2_with fail
  generalize w.alloc (.cells #[.int .i64 K, .int .i64 f, .int .i64 o, .int .i64 x, .int .i64 s, .int .i64 n] 23) = w1 at HBX HK1 HC c1 c2 c3 c4 c5 ⊢
  refine (mone_nil x s _).mono ?_
  rintro e w2 ⟨rfl, rfl⟩
  go_wp2_with fail
  refine (mtake_nil o x s _).mono ?_
  rintro e w2 ⟨rfl, rfl⟩
  clear c1 c2 c3 c4 c5
  go_wp2_with fail
  refine (awake_any _).mono ?_
  rintro e w3 ⟨rfl, hk3⟩
  have HK3 : Hid (Keep (fun z => w2.heap.size ≤ z) w2 w3) := Keep.trans (by (repeat (first | exact Keep.refl _ _ | exact Keep.refl _ _ | refine Keep.drew ?_ | refine Keep.drewN ?_ _ | refine Keep.alloc ?_ _ | refine Keep.setNew ?_ (by omega) _)); done) hk3
  have hl := block_lt HBX.out
  have c1 := (HK3.out.cell hl (by omega)).trans HC.out.1
  have c2 := (HK3.out.cell hl (by omega)).trans HC.out.2.1
  have c3 := (HK3.out.cell hl (by omega)).trans HC.out.2.2.1
  have c4 := (HK3.out.cell hl (by omega)).trans HC.out.2.2.2.1
  have c5 := (HK3.out.cell hl (by omega)).trans HC.out.2.2.2.2
  clear hk3 hl
  go_wp2_with (first | (go_at_call 7; refine (mcount_nil _ _).mono ?_; rintro e w4 ⟨rfl, rfl⟩) | (go_at_call 8; refine (mspare_nil _).mono ?_; rintro e w4 ⟨rfl, rfl⟩) | (go_at_call 9; refine (mfree_nil _).mono ?_; rintro e w4 ⟨rfl, rfl⟩) | (go_at_call 10; refine (mblocks_nil _).mono ?_; rintro e w4 ⟨rfl, rfl⟩) | (go_at_call 11; refine (mat_nil _ _ _ _).mono ?_; rintro e w4 ⟨rfl, rfl⟩) | (go_at_call 12; refine (mdrop_nil _ _ _).mono ?_; rintro e w4 ⟨rfl, rfl⟩) | (go_at_call 13; refine (mturn_nil _ _ _ _ _).mono ?_; rintro e w4 ⟨rfl, rfl⟩) | (go_at_call 14; refine (mset_nil _ _ _).mono ?_; rintro e w4 ⟨rfl, rfl⟩) | (go_at_call 15; refine (mis_nil _ _).mono ?_; rintro e w4 ⟨rfl, rfl⟩) | (go_at_call 16; refine (mkind_nil _ _).mono ?_; rintro e w4 ⟨rfl, rfl⟩) | (go_at_call 17; refine (mright_nil _).mono ?_; rintro e w4 ⟨rfl, rfl⟩) | (go_at_call 18; refine (mram_nil _).mono ?_; rintro e w4 ⟨rfl, rfl⟩))
  go_ret
  have hk := HK1.out.mono (T := fun z => w.heap.size ≤ z) (fun _ _ h => h.elim)
  have hs := HK1.out.size
  have hk2 := Keep.trans hk (HK3.out.mono fun z _ (h : w2.heap.size ≤ z) => (Nat.le_trans hs h : w.heap.size ≤ z))
  exact ⟨rfl, hk2.os, hk2.tape, hk2.output, hk2.size, fun k hk => hk2.block k hk (by omega)⟩

end Go.Proofs.Ytjffdimlbppgcaa
