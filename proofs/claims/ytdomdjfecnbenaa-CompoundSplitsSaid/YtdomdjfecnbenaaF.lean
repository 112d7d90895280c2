/- Compounds: All, Find, Next, lost, Lost, Split. -/
import Derived.Test.YtdomdjfecnbenaaE
set_option linter.unusedVariables false
set_option linter.unusedSimpArgs false
namespace Go.Proofs.Ytdomdjfecnbenaa
open Go.RowKit Go.Own

set_option maxHeartbeats 400000 in
theorem all_nil (w : World) : Calls Try.prog 12 #[.pointer none] w fun e w' => e = .returned (.slice none 0 0) ∧ w = w' := by
  go_enter Try.func12, Try.ntmps12
  go_wp2
  go_ret
  exact ⟨rfl, rfl⟩

set_option maxHeartbeats 1000000 in
theorem all_any (B p : Nat) (v u : Value) (L : List Cp) (Q : List Int) (w : World) (hR : RepC w B p v u L Q) :
    Calls Try.prog 12 #[.pointer (some ⟨p, 0, none⟩)] w fun e w' => ∃ v', e = .returned v' ∧ OwnL cpE w' w.heap.size 39 v' L ∧ Keep (fun _ => False) w w' := by
  have hc0 := hR.c0
  have hl := hR.hl
  have hpl := block_lt hR.hp
  go_enter Try.func12, Try.ntmps12
  go_wp2_with (at_builtin; refine wpl_app et31 rfl (.tmp 5) (.tmp 9) rfl w.heap.size (.slice (some ⟨w.heap.size, 0, none⟩) 0 0) 0 [] rfl (own_empty_at (heap_alloc_new w _) (Nat.le_refl _)) v L.length (cpE.cs L) rfl (hR.hv.reads.keep (S := fun _ => False) (by (repeat (first | exact Keep.refl _ _ | exact Keep.refl _ _ | refine Keep.drew ?_ | refine Keep.drewN ?_ _ | refine Keep.alloc ?_ _ | refine Keep.setNew ?_ (by omega) _)); done) (fun _ _ _ _ => id)) (cpE.cs_one_cell _) (by unfold maxLen; omega) (by omega) (by simp) ?_; intro v1 w1 hown1 hgrow1)
  go_ret
  refine ⟨_, rfl, ?_, Keep.grown (by (repeat (first | exact Keep.refl _ _ | exact Keep.refl _ _ | refine Keep.drew ?_ | refine Keep.drewN ?_ _ | refine Keep.alloc ?_ _ | refine Keep.setNew ?_ (by omega) _)); done) hgrow1 (fun x h1 h2 => by simp [Value.ownBlock] at h1; omega)⟩
  rw [Nat.zero_add, List.nil_append] at hown1; exact hown1

theorem cells2 {w : World} {b e : Nat} {x0 x1 : Value} {z : Nat × Nat} (hb : w.heap[b]? = some (.cells #[x0, x1] e z)) : w.cell? ⟨b, 0, none⟩ = some x0 ∧ w.cell? ⟨b, 1, none⟩ = some x1 := by
  simp [cell_block hb]

def cpV (x : Cp) : Value := .agg #[.int .i64 x.f, .int .u8 x.b]

set_option maxHeartbeats 400000 in
theorem get_nil (f : Int) (w : World) : Calls Try.prog 23 #[.pointer none, .int .i64 f] w fun e w' => e = .returned (.tuple #[cpV ⟨0, 0⟩, .bool false]) ∧ Keep (fun _ => False) w w' := by
  go_enter Try.func23, Try.ntmps23
  go_wp2_with (go_at_call 26; refine (where_nil _ _).mono ?_; rintro e w1 ⟨rfl, rfl⟩)
  exact bodyPost_ret (v := .tuple #[cpV ⟨0, 0⟩, .bool false]) (by simp [results, Try.results23, go_sem, cpV]) rfl ⟨rfl, (by (repeat (first | exact Keep.refl _ _ | exact Keep.refl _ _ | refine Keep.drew ?_ | refine Keep.drewN ?_ _ | refine Keep.alloc ?_ _ | refine Keep.setNew ?_ (by omega) _)); done)⟩

set_option maxHeartbeats 400000 in
theorem next_nil (w : World) : Calls Try.prog 15 #[.pointer none] w fun e w' => e = .returned (.tuple #[cpV ⟨0, 0⟩, .bool false]) ∧ Keep (fun _ => False) w w' := by
  go_enter Try.func15, Try.ntmps15
  go_wp2
  exact bodyPost_ret (v := .tuple #[cpV ⟨0, 0⟩, .bool false]) (by simp [results, Try.results15, go_sem, cpV]) rfl ⟨rfl, (by (repeat (first | exact Keep.refl _ _ | exact Keep.refl _ _ | refine Keep.drew ?_ | refine Keep.drewN ?_ _ | refine Keep.alloc ?_ _ | refine Keep.setNew ?_ (by omega) _)); done)⟩

set_option maxHeartbeats 1000000 in
theorem get_yes (B p : Nat) (v u : Value) (L : List Cp) (Q : List Int) (x k : Nat) (hx : x < 1024) (w : World) (hR : RepC w B p v u L Q) (hn : whI L ((x / 8 * 8 : Nat) : Int) = k) (hk : k < L.length) :
    Calls Try.prog 23 #[.pointer (some ⟨p, 0, none⟩), .int .i64 x] w fun e w' => e = .returned (.tuple #[cpV L[k], .bool true]) ∧ Keep (fun _ => False) w w' := by
  obtain ⟨g, cap, rfl, hBg, hcap, hgl⟩ := hR.hv.form (by intro e; subst e; simp at hk)
  have hl := hR.hl
  have HN := Lib.hid hn
  clear hn
  have hk0 : (0 : Int) ≤ k := by omega
  have KB : Hid (Keep (fun _ => False) w (w.alloc (.cells #[.int .i64 0, .int .u8 0] 39))) := (Keep.refl _ _).alloc _
  have HB : Hid ((w.alloc (.cells #[.int .i64 0, .int .u8 0] 39)).heap[w.heap.size]? = some (.cells #[.int .i64 0, .int .u8 0] 39 (0, 0))) := heap_alloc_new w _
  go_enter Try.func23, Try.ntmps23
  go_wp2_with (go_at_call 26; go_loud (refine (where_any B p _ u L Q x hx _ (hR.keep0 KB.out)).mono ?_; rw [HN.out]; rintro e w1 ⟨rfl, hk1⟩; have HR1 := Lib.hid ((hR.keep0 KB.out).keep0 hk1); have hc0 := HR1.out.c0; obtain ⟨c0, c1⟩ := cp_cells HR1.out.hv hk; have hbk := (hk1.block _ (block_lt HB.out) id).trans HB.out; have hbz := block_lt hbk; obtain ⟨b0, b1⟩ := cells2 hbk; have f0 : w1.frozen? ⟨w.heap.size, 0, none⟩ = false := frozen_block hbk; have f1 : w1.frozen? ⟨w.heap.size, 1, none⟩ = false := frozen_block hbk))
  refine bodyPost_ret (v := .tuple #[cpV L[k], .bool true]) ?_ rfl ⟨rfl, ?_⟩
  · simp [results, Try.results23, go_sem, cpV, b0, b1, hbz]
  · exact (by (repeat (first | exact KB.out.trans hk1 | exact Keep.refl _ _ | refine Keep.drew ?_ | refine Keep.drewN ?_ _ | refine Keep.alloc ?_ _ | refine Keep.setNew ?_ (by omega) _)); done)

end Go.Proofs.Ytdomdjfecnbenaa
