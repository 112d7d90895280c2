/- Compounds: one is made; the looks. -/
import Derived.Test.YtdomdjfecnbenaaD
import Derived.OwnWalk
set_option linter.unusedVariables false
set_option linter.unusedSimpArgs false
namespace Go.Proofs.Ytdomdjfecnbenaa
open Go.RowKit Go.Own

set_option maxHeartbeats 1000000 in
theorem insert_end (B : Nat) (v : Value) (L : List Cp) (y : Cp) (ad : Addr) (c : Nat) (w : World) (hB : B ≤ w.heap.size) (hv : OwnL cpE w B 39 v L) (hl : L.length ≤ 200) (hy : Reads w (.slice (some ad) 1 c) 1 cpE.k (cpE.c y)) :
    Calls Try.prog 27 #[v, .int .i64 L.length, .slice (some ad) 1 c] w fun e w' => ∃ v', e = .returned v' ∧ OwnL cpE w' B 39 v' (L ++ [y]) ∧ w.grownBy w' v.ownBlock := by
  obtain ⟨vhi, hhi, -⟩ := sl_hi et31 hv (i := L.length) (Nat.le_refl _) ↑L.length rfl
  obtain ⟨a, c0, rfl, -⟩ := hv.slice
  go_enter Try.func27, Try.ntmps27
  go_wp2_with (at_builtin; refine wpl_app et31 rfl (.tmp 23) (.tmp 24) rfl B _ L.length (cpE.cs L) rfl hv (.slice (some ad) 1 c) 1 (cpE.c y) rfl hy (cpE.one y) (by unfold maxLen; omega) (by omega) hB ?_; intro v1 w1 hown1 hgrow1)
  go_ret
  refine ⟨_, rfl, ?_, hgrow1⟩
  unfold OwnL
  rw [List.length_append, cpE.cs_append, cpE.cs_one]
  exact hown1

set_option maxHeartbeats 400000 in
theorem make_nil (f : Int) (w : World) : Calls Try.prog 10 #[.pointer none, .int .i64 f] w fun e w' => e = .returned (.int .i64 1) ∧ w = w' := by
  go_enter Try.func10, Try.ntmps10
  go_wp2
  go_ret
  exact ⟨rfl, rfl⟩

theorem wh_nil (f : Int) : whI [] f = -1 := rfl

set_option maxHeartbeats 2000000 in
theorem make_first (B p : Nat) (v u : Value) (Q : List Int) (x : Nat) (hx : x ≤ 1016) (h8 : x / 8 * 8 = x) (w : World) (hB : B ≤ w.heap.size) (hR : RepC w B p v u [] Q) :
    Calls Try.prog 10 #[.pointer (some ⟨p, 0, none⟩), .int .i64 x] w fun e w' => ∃ v', e = .returned (.int .i64 0) ∧ RepC w' B p v' u [⟨x, 0⟩] Q ∧ Keep (fun y => y = p) w w' ∧ (∀ y, v'.ownBlock = some y → w.heap.size ≤ y) := by
  have h8' := Lib.hid h8
  have he : decide (x / 8 * 8 = x) = true := by simpa using h8
  clear h8
  obtain ⟨a, c, rfl, -⟩ := hR.hv.slice
  go_enter Try.func10, Try.ntmps10
  go_wp2_with (first | (go_at_call 25; refine (even_any x (by omega) _).mono ?_; rw [he]; rintro e w1 ⟨rfl, rfl⟩) | (go_at_call 26; refine (where_any B p _ u [] Q x (by omega) _ hR).mono ?_; rw [wh_nil]; rintro e w2 ⟨rfl, hk2⟩; have HR2 := Lib.hid (hR.keep0 hk2); have hc0 := HR2.out.c0; have hpl2 := block_lt HR2.out.hp; have fz := frozen_block (i := 0) HR2.out.hp))
  refine wp_loop_once ?_
  go_wp2_with (first | (at_builtin; go_loud (refine wpl_app et31 rfl (.tmp 47) (.tmp 51) rfl w2.heap.size (.slice (some ⟨w2.heap.size, 0, none⟩) 0 0) 0 [] rfl (own_empty_at (heap_alloc_new w2 _) (Nat.le_refl _)) _ 0 (cpE.cs []) rfl (HR2.out.hv.reads.keep (S := fun _ => False) (by (repeat (first | exact Keep.refl _ _ | exact Keep.refl _ _ | refine Keep.drew ?_ | refine Keep.drewN ?_ _ | refine Keep.alloc ?_ _ | refine Keep.setNew ?_ (by omega) _)); done) (fun _ _ _ _ => id)) (cpE.cs_one_cell _) (by unfold maxLen; omega) (by omega) (by simp) ?_; intro v3 w3 hown3 hgrow3; have HK3 : Hid (Keep (fun _ => False) w2 w3) := Keep.grown (by (repeat (first | exact Keep.refl _ _ | exact Keep.refl _ _ | refine Keep.drew ?_ | refine Keep.drewN ?_ _ | refine Keep.alloc ?_ _ | refine Keep.setNew ?_ (by omega) _)); done) hgrow3 (fun x h1 h2 => by simp [Value.ownBlock] at h1; omega); have HO3 : Hid (OwnL cpE w3 w2.heap.size 39 v3 []) := hown3; clear hown3 hgrow3)) | (go_at_call 27; go_loud (refine (insert_end w2.heap.size v3 [] ⟨x, 0⟩ ⟨w3.heap.size, 0, none⟩ 1 _ (by have := HK3.out.size; simp; omega) (HO3.out.keep (S := fun _ => False) (by (repeat (first | exact Keep.refl _ _ | exact Keep.refl _ _ | refine Keep.drew ?_ | refine Keep.drewN ?_ _ | refine Keep.alloc ?_ _ | refine Keep.setNew ?_ (by omega) _)); done) (fun _ _ => id)) (by simp) (Reads.new (heap_alloc_new w3 _) rfl 1)).mono ?_; rintro e w5 ⟨v5, rfl, hO5, hg5⟩; have HK5 : Hid (Keep (fun _ => False) w2 w5) := Keep.grown (by (repeat (first | exact HK3.out | exact Keep.refl _ _ | refine Keep.drew ?_ | refine Keep.drewN ?_ _ | refine Keep.alloc ?_ _ | refine Keep.setNew ?_ (by omega) _)); done) hg5 (fun x h1 h2 => by have := (HO3.out.lt x h1).1; omega); obtain ⟨a5, c5, rfl, -⟩ := hO5.slice; obtain ⟨hz3, hz4⟩ := keepS2 HK5.out hpl2 id hc0 fz; have HO5 := Lib.hid hO5; clear hO5 hg5)))
  go_ret
  have hsz := hk2.size
  have hlt5 := HO5.out.lt
  have KP := (Keep.refl (fun y => y = p) w5).setCell (p := ⟨p, 0, none⟩) (fun _ => rfl) (.slice a5 ([] ++ [(⟨x, 0⟩ : Cp)]).length c5)
  refine ⟨.slice a5 ([] ++ [(⟨x, 0⟩ : Cp)]).length c5, rfl, ⟨?_, ?_, ?_, ?_, hR.nu, ?_, by simp, hR.hq, by simp⟩, (((hk2.trans HK5.out).mono (T := fun y => y = p) (fun _ _ h => h.elim)).setCell (fun _ => rfl) _), fun y hy => by have := (hlt5 y hy).1; omega⟩
  · rw [heap_setCell_eq ((HK5.out.block p hpl2 id).trans HR2.out.hp)]; simp
  · exact (HO5.out.base (C := B) (fun y hy => by have := (hlt5 y hy).1; omega)).keep KP (fun y hy => by have := (hlt5 y hy).1; omega)
  · exact (HR2.out.hu.keep HK5.out (fun _ _ => id)).keep KP (fun y hy e => hR.nu (e ▸ hy))
  · intro e; have := (hlt5 p e).1; omega
  · intro y hy e; have := (hlt5 y hy).1; have := (HR2.out.hu.lt y e).2; omega

end Go.Proofs.Ytdomdjfecnbenaa
