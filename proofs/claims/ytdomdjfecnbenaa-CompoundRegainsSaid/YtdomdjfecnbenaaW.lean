/- Compounds: one is made beyond all others. -/
import Derived.Test.YtdomdjfecnbenaaV
set_option linter.unusedVariables false
set_option linter.unusedSimpArgs false
namespace Go.Proofs.Ytdomdjfecnbenaa
open Go.RowKit Go.Own

set_option maxHeartbeats 2000000 in
theorem make_end (B p : Nat) (v u : Value) (L : List Cp) (Q : List Int) (x : Nat) (hx : x ≤ 1016) (h8 : x / 8 * 8 = x) (hlt : ∀ y, y ∈ L → y.f < x) (hll : L.length ≤ 150) (w : World) (hB : B ≤ w.heap.size) (hR : RepC w B p v u L Q) :
    Calls Try.prog 10 #[.pointer (some ⟨p, 0, none⟩), .int .i64 x] w fun e w' => ∃ v', e = .returned (.int .i64 0) ∧ RepC w' B p v' u (L ++ [⟨x, 0⟩]) Q ∧ Keep (fun y => y = p) w w' ∧ (∀ y, v'.ownBlock = some y → w.heap.size ≤ y) := by
  have h8' := Lib.hid h8
  have he : decide (x / 8 * 8 = x) = true := by simpa using h8
  clear h8
  have HLT := Lib.hid hlt
  clear hlt
  have hwn : Hid (whI L ((x / 8 * 8 : Nat) : Int) = -1) := by
    rcases whI_cases L ((x / 8 * 8 : Nat) : Int) with ⟨h1, _⟩ | ⟨k, _, hk, h3⟩
    · exact h1
    · have := HLT.out _ (List.getElem_mem hk); have h8'' := h8'.out; rw [h8''] at h3; omega
  obtain ⟨a, c, rfl, hag⟩ := hR.hv.slice
  have HAG := Lib.hid hag
  clear hag
  go_enter Try.func10, Try.ntmps10
  go_wp2_with (first | (go_at_call 25; refine (even_any x (by omega) _).mono ?_; rw [he]; rintro e w1 ⟨rfl, rfl⟩) | (go_at_call 26; refine (where_any B p _ u L Q x (by omega) _ hR).mono ?_; rw [hwn.out]; rintro e w2 ⟨rfl, hk2⟩; have HR2 := Lib.hid (hR.keep0 hk2); have hc0 := HR2.out.c0; have hpl2 := block_lt HR2.out.hp; have fz := frozen_block (i := 0) HR2.out.hp))
  go_loop [5] (fun i => ∃ k : Nat, k ≤ L.length ∧ i = .int .i64 k) (fun i => L.length - (intOf i).toNat)
  case atStart => exact ⟨0, by omega, rfl⟩
  case round =>
   obtain ⟨k, hk, rfl⟩ := hrel
   by_cases hkl : k < L.length
   · obtain ⟨g, hg⟩ := HAG.out (by intro e; rw [e] at hkl; simp at hkl)
     subst hg
     obtain ⟨d0, d1⟩ := cp_cells HR2.out.hv hkl
     have hfl := HLT.out _ (List.getElem_mem hkl)
     go_wp2
     go_round
     case rel => exact ⟨k + 1, by omega, by go_num⟩
     case measure => simp [intOf]; omega
   · obtain rfl : k = L.length := by omega
     go_wp2_with (first | (at_builtin; go_loud (refine wpl_app et31 rfl (.tmp 47) (.tmp 51) rfl w2.heap.size (.slice (some ⟨w2.heap.size, 0, none⟩) 0 0) 0 [] rfl (own_empty_at (heap_alloc_new w2 _) (Nat.le_refl _)) _ L.length (cpE.cs L) rfl (HR2.out.hv.reads.keep (S := fun _ => False) (by (repeat (first | exact Keep.refl _ _ | exact Keep.refl _ _ | refine Keep.drew ?_ | refine Keep.drewN ?_ _ | refine Keep.alloc ?_ _ | refine Keep.setNew ?_ (by omega) _)); done) (fun _ _ _ _ => id)) (cpE.cs_one_cell _) (by unfold maxLen; omega) (by omega) (by simp) ?_; intro v3 w3 hown3 hgrow3; have HK3 : Hid (Keep (fun _ => False) w2 w3) := Keep.grown (by (repeat (first | exact Keep.refl _ _ | exact Keep.refl _ _ | refine Keep.drew ?_ | refine Keep.drewN ?_ _ | refine Keep.alloc ?_ _ | refine Keep.setNew ?_ (by omega) _)); done) hgrow3 (fun x h1 h2 => by simp [Value.ownBlock] at h1; omega); have HO3 : Hid (OwnL cpE w3 w2.heap.size 39 v3 L) := (by unfold Hid; rw [Nat.zero_add, List.nil_append] at hown3; exact hown3); clear hown3 hgrow3)) | (go_at_call 27; go_loud (refine (insert_end w2.heap.size v3 L ⟨x, 0⟩ ⟨w3.heap.size, 0, none⟩ 1 _ (by have := HK3.out.size; simp; omega) (HO3.out.keep (S := fun _ => False) (by (repeat (first | exact Keep.refl _ _ | exact Keep.refl _ _ | refine Keep.drew ?_ | refine Keep.drewN ?_ _ | refine Keep.alloc ?_ _ | refine Keep.setNew ?_ (by omega) _)); done) (fun _ _ => id)) (by omega) (Reads.new (heap_alloc_new w3 _) rfl 1)).mono ?_; rintro e w5 ⟨v5, rfl, hO5, hg5⟩; have HK5 : Hid (Keep (fun _ => False) w2 w5) := Keep.grown (by (repeat (first | exact HK3.out | exact Keep.refl _ _ | refine Keep.drew ?_ | refine Keep.drewN ?_ _ | refine Keep.alloc ?_ _ | refine Keep.setNew ?_ (by omega) _)); done) hg5 (fun x h1 h2 => by have := (HO3.out.lt x h1).1; omega); obtain ⟨a5, c5, rfl, -⟩ := hO5.slice; obtain ⟨hz3, hz4⟩ := keepS2 HK5.out hpl2 id hc0 fz; have HO5 := Lib.hid hO5; clear hO5 hg5)))
     go_ret
     have hsz := hk2.size
     have hO5 := HO5.out
     rw [show (L ++ [(⟨(x : Int), 0⟩ : Cp)]).length = L.length + 1 by simp] at hO5
     have hlt5 := hO5.lt
     have KP := (Keep.refl (fun y => y = p) w5).setCell (p := ⟨p, 0, none⟩) (fun _ => rfl) (.slice a5 (L.length + 1) c5)
     refine ⟨.slice a5 (L.length + 1) c5, rfl, ⟨?_, ?_, ?_, ?_, hR.nu, ?_, by simp; omega, hR.hq, fun y hy => by (rcases List.mem_append.mp hy with h | h; exact hR.hb y h; simp at h; subst h; exact (show (0 : Nat) < 256 by decide))⟩, (((hk2.trans HK5.out).mono (T := fun y => y = p) (fun _ _ h => h.elim)).setCell (fun _ => rfl) _), fun y hy => by have := (hlt5 y hy).1; omega⟩
     · rw [heap_setCell_eq ((HK5.out.block p hpl2 id).trans HR2.out.hp)]; simp
     · exact (hO5.base (C := B) (fun y hy => by have := (hlt5 y hy).1; omega)).keep KP (fun y hy => by have := (hlt5 y hy).1; omega)
     · exact (HR2.out.hu.keep HK5.out (fun _ _ => id)).keep KP (fun y hy e => hR.nu (e ▸ hy))
     · intro e; have := (hlt5 p e).1; omega
     · intro y hy e; have := (hlt5 y hy).1; have := (HR2.out.hu.lt y e).2; omega

end Go.Proofs.Ytdomdjfecnbenaa
