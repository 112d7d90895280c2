/- Compounds: one is made anywhere; the errors of Make. -/
import Derived.Test.YtdomdjfecnbenaaX
import Derived.Test.YtdomdjfecnbenaaO
import Derived.Test.YtdomdjfecnbenaaW
set_option linter.unusedVariables false
set_option linter.unusedSimpArgs false
namespace Go.Proofs.Ytdomdjfecnbenaa
open Go.RowKit Go.Own

theorem insert_any (B : Nat) (v : Value) (L : List Cp) (i : Nat) (y : Cp) (vb : Nat) (w : World) (hB : B ≤ w.heap.size) (hv : OwnL cpE w B 39 v L) (hi : i ≤ L.length) (hl : L.length ≤ 200)
    (hy : w.heap[vb]? = some (.cells (cpE.c y).toArray 39 (0, 0))) (hne : v.ownBlock ≠ some vb) :
    Calls Try.prog 27 #[v, .int .i64 i, .slice (some ⟨vb, 0, none⟩) 1 1] w fun e w' => ∃ v', e = .returned v' ∧ OwnL cpE w' B 39 v' (insAt L i y) ∧ Keep (fun x => v.ownBlock = some x) w w' := by
  by_cases h : i = L.length
  · subst h
    refine (insert_end B v L y ⟨vb, 0, none⟩ 1 w hB hv hl (Reads.new hy rfl 1)).mono ?_
    rintro e w' ⟨v', rfl, h1, h2⟩
    refine ⟨v', rfl, ?_, Keep.grown (Keep.refl _ _) h2 (fun k h _ => h)⟩
    unfold insAt
    rw [List.take_length, List.drop_length]; exact h1
  · obtain ⟨g, cap, rfl, hBg, hcap, hgl⟩ := hv.form (by intro e; subst e; simp at hi h; omega)
    by_cases hr : L.length + 1 ≤ cap
    · refine (insert_place B g cap i vb L y w hv (by omega) hl hr hy (fun e => hne (by rw [e]; rfl))).mono ?_
      rintro e w' ⟨v', rfl, h1, h2, _⟩
      exact ⟨v', rfl, h1, h2⟩
    · refine (insert_new B g cap i vb L y w hB hv (by omega) hl (by omega) hy).mono ?_
      rintro e w' ⟨v', rfl, h1, h2, _⟩
      exact ⟨v', rfl, h1, h2⟩

/-- Where one is put. -/
structure InsP (L : List Cp) (x : Int) (i : Nat) : Prop where
  le : i ≤ L.length
  lt : ∀ j, (hj : j < L.length) → j < i → L[j].f < x
  ge : ∀ hj : i < L.length, x ≤ L[i].f

theorem make_close {w w2 w5 : World} {B p k n n5 c c5 : Nat} {a : Option Addr} {u : Value} {L : List Cp} {Q : List Int} {x : Int} {a5 : Option Addr} (hP : InsP L x k) (hR : RepC w B p (.slice a n c) u L Q) (hk2 : Keep (fun _ => False) w w2) (hR2 : RepC w2 B p (.slice a n c) u L Q)
    (HK5 : Keep (fun _ => False) w2 w5) (HO5 : OwnL cpE w5 w2.heap.size 39 (.slice a5 n5 c5) (insAt L k ⟨x, 0⟩)) (hB : B ≤ w.heap.size) (hll : L.length ≤ 150) :
    ∃ v', InsP L x k ∧ RepC (w5.setCell ⟨p, 0, none⟩ (.slice a5 n5 c5)) B p v' u (insAt L k ⟨x, 0⟩) Q ∧ Keep (fun y => y = p) w (w5.setCell ⟨p, 0, none⟩ (.slice a5 n5 c5)) ∧ (∀ y, v'.ownBlock = some y → w.heap.size ≤ y) := by
  have hsz := hk2.size
  have hlt5 := HO5.lt
  have hpl2 := block_lt hR2.hp
  have KP := (Keep.refl (fun y => y = p) w5).setCell (p := ⟨p, 0, none⟩) (fun _ => rfl) (.slice a5 n5 c5)
  refine ⟨.slice a5 n5 c5, hP, ⟨?_, ?_, ?_, ?_, hR.nu, ?_, by rw [insAt_length L hP.le]; omega, hR.hq, fun y hy => ?_⟩, (((hk2.trans HK5).mono (T := fun y => y = p) (fun _ _ h => h.elim)).setCell (fun _ => rfl) _), fun y hy => by have := (hlt5 y hy).1; omega⟩
  · rw [heap_setCell_eq ((HK5.block p hpl2 id).trans hR2.hp)]; simp
  · exact (HO5.base (C := B) (fun y hy => by have := (hlt5 y hy).1; omega)).keep KP (fun y hy => by have := (hlt5 y hy).1; omega)
  · exact (hR2.hu.keep HK5 (fun _ _ => id)).keep KP (fun y hy e => hR.nu (e ▸ hy))
  · intro e; have := (hlt5 p e).1; omega
  · intro y hy e; have := (hlt5 y hy).1; have := (hR2.hu.lt y e).2; omega
  · rcases List.mem_cons.mp ((ins_perm L k _).mem_iff.mp hy) with rfl | hy
    · exact (show (0 : Nat) < 256 by decide)
    · exact hR.hb y hy

set_option maxRecDepth 100000 in
set_option maxHeartbeats 4000000 in
theorem make_any (B p : Nat) (v u : Value) (L : List Cp) (Q : List Int) (x : Nat) (hx : x ≤ 1016) (h8 : x / 8 * 8 = x) (hn : whI L ((x / 8 * 8 : Nat) : Int) = -1) (hll : L.length ≤ 150) (w : World) (hB : B ≤ w.heap.size) (hR : RepC w B p v u L Q) :
    Calls Try.prog 10 #[.pointer (some ⟨p, 0, none⟩), .int .i64 x] w fun e w' => e = .returned (.int .i64 0) ∧ ∃ i v', InsP L x i ∧ RepC w' B p v' u (insAt L i ⟨x, 0⟩) Q ∧ Keep (fun y => y = p) w w' ∧ (∀ y, v'.ownBlock = some y → w.heap.size ≤ y) := by
  have h8' := Lib.hid h8
  have he : decide (x / 8 * 8 = x) = true := by simpa using h8
  clear h8
  have hwn := Lib.hid hn
  clear hn
  obtain ⟨a, c, rfl, hag⟩ := hR.hv.slice
  have HAG := Lib.hid hag
  clear hag
  go_enter Try.func10, Try.ntmps10
  go_wp2_with (first | (go_at_call 25; refine (even_any x (by omega) _).mono ?_; rw [he]; rintro e w1 ⟨rfl, rfl⟩) | (go_at_call 26; refine (where_any B p _ u L Q x (by omega) _ hR).mono ?_; rw [hwn.out]; rintro e w2 ⟨rfl, hk2⟩; have HR2 := Lib.hid (hR.keep0 hk2); have hc0 := HR2.out.c0; have hpl2 := block_lt HR2.out.hp; have fz := frozen_block (i := 0) HR2.out.hp))
  go_loop [5] (fun i => ∃ k : Nat, k ≤ L.length ∧ i = .int .i64 k ∧ ∀ j, (hj : j < L.length) → j < k → L[j].f < x) (fun i => L.length - (intOf i).toNat)
  case atStart => exact ⟨0, by omega, rfl, fun j _ h => by omega⟩
  case round =>
   obtain ⟨k, hk, rfl, hlo⟩ := hrel
   have HLO := Lib.hid hlo
   clear hlo
   by_cases hkl : k < L.length ∧ ∃ hj : k < L.length, L[k].f < x
   · obtain ⟨hkl, _, hfl⟩ := hkl
     obtain ⟨g, hg⟩ := HAG.out (by intro e; rw [e] at hkl; simp at hkl)
     subst hg
     obtain ⟨d0, d1⟩ := cp_cells HR2.out.hv hkl
     have HLO2 : Hid (∀ j, (hj : j < L.length) → j < k + 1 → L[j].f < x) := fun j hj h => by
       by_cases e : j = k
       · subst e; exact hfl
       · exact HLO.out j hj (by omega)
     go_wp2
     go_round
     case rel => exact ⟨k + 1, by omega, by go_num, HLO2.out⟩
     case measure => simp [intOf]; omega
   · have hP : Hid (InsP L x k) := ⟨hk, HLO.out, fun hj => Int.not_lt.mp fun h => hkl ⟨hj, hj, h⟩⟩
     have HKL := Lib.hid hkl
     clear hkl
     have hside : (L.length ≤ k) ∨ (∃ (hkl : k < L.length) (g : Nat), a = some ⟨g, 0, none⟩ ∧ ¬ (L[k].f < x)) := by
       by_cases h : k < L.length
       · obtain ⟨g, hg⟩ := HAG.out (by intro e; rw [e] at h; simp at h)
         exact .inr ⟨h, g, hg, fun h2 => HKL.out ⟨h, h, h2⟩⟩
       · exact .inl (by omega)
     rcases hside with hkl | ⟨hkl, g, rfl, hfl⟩
     · go_wp2_with (first | (at_builtin; (refine wpl_app et31 rfl (.tmp 47) (.tmp 51) rfl w2.heap.size (.slice (some ⟨w2.heap.size, 0, none⟩) 0 0) 0 [] rfl (own_empty_at (heap_alloc_new w2 _) (Nat.le_refl _)) _ L.length (cpE.cs L) rfl (HR2.out.hv.reads.keep (S := fun _ => False) (by (repeat (first | exact Keep.refl _ _ | exact Keep.refl _ _ | refine Keep.drew ?_ | refine Keep.drewN ?_ _ | refine Keep.alloc ?_ _ | refine Keep.setNew ?_ (by omega) _)); done) (fun _ _ _ _ => id)) (cpE.cs_one_cell _) (by unfold maxLen; omega) (by omega) (by simp) ?_; intro v3 w3 hown3 hgrow3; have HK3 : Hid (Keep (fun _ => False) w2 w3) := Keep.grown (by (repeat (first | exact Keep.refl _ _ | exact Keep.refl _ _ | refine Keep.drew ?_ | refine Keep.drewN ?_ _ | refine Keep.alloc ?_ _ | refine Keep.setNew ?_ (by omega) _)); done) hgrow3 (fun x h1 h2 => by simp [Value.ownBlock] at h1; omega); have HO3 : Hid (OwnL cpE w3 w2.heap.size 39 v3 L) := (by unfold Hid; rw [Nat.zero_add, List.nil_append] at hown3; exact hown3); clear hown3 hgrow3)) | (go_at_call 27; (refine (insert_any w2.heap.size v3 L k ⟨x, 0⟩ w3.heap.size _ (by have := HK3.out.size; simp; omega) (HO3.out.keep (S := fun _ => False) (by (repeat (first | exact Keep.refl _ _ | exact Keep.refl _ _ | refine Keep.drew ?_ | refine Keep.drewN ?_ _ | refine Keep.alloc ?_ _ | refine Keep.setNew ?_ (by omega) _)); done) (fun _ _ => id)) hk (by omega) (heap_alloc_new w3 _) (fun e => by have := (HO3.out.lt _ e).2; omega)).mono ?_; rintro e w5 ⟨v5, rfl, hO5, hg5⟩; have HK5 : Hid (Keep (fun _ => False) w2 w5) := (((HK3.out.mono (T := fun x => w2.heap.size ≤ x) (fun _ _ h => h.elim)).alloc _).trans (hg5.mono (T := fun x => w2.heap.size ≤ x) (fun x _ h => (HO3.out.lt x h).1))).fresh (fun _ h => h) (Nat.le_refl _); obtain ⟨a5, c5, rfl, -⟩ := hO5.slice; obtain ⟨hz3, hz4⟩ := keepS2 HK5.out hpl2 id hc0 fz; have HO5 := Lib.hid hO5; clear hO5 hg5)))
       go_ret
       exact ⟨rfl, k, make_close hP.out hR hk2 HR2.out HK5.out HO5.out hB hll⟩
     · obtain ⟨d0, d1⟩ := cp_cells HR2.out.hv hkl
       go_wp2_with (first | (at_builtin; (refine wpl_app et31 rfl (.tmp 47) (.tmp 51) rfl w2.heap.size (.slice (some ⟨w2.heap.size, 0, none⟩) 0 0) 0 [] rfl (own_empty_at (heap_alloc_new w2 _) (Nat.le_refl _)) _ L.length (cpE.cs L) rfl (HR2.out.hv.reads.keep (S := fun _ => False) (by (repeat (first | exact Keep.refl _ _ | exact Keep.refl _ _ | refine Keep.drew ?_ | refine Keep.drewN ?_ _ | refine Keep.alloc ?_ _ | refine Keep.setNew ?_ (by omega) _)); done) (fun _ _ _ _ => id)) (cpE.cs_one_cell _) (by unfold maxLen; omega) (by omega) (by simp) ?_; intro v3 w3 hown3 hgrow3; have HK3 : Hid (Keep (fun _ => False) w2 w3) := Keep.grown (by (repeat (first | exact Keep.refl _ _ | exact Keep.refl _ _ | refine Keep.drew ?_ | refine Keep.drewN ?_ _ | refine Keep.alloc ?_ _ | refine Keep.setNew ?_ (by omega) _)); done) hgrow3 (fun x h1 h2 => by simp [Value.ownBlock] at h1; omega); have HO3 : Hid (OwnL cpE w3 w2.heap.size 39 v3 L) := (by unfold Hid; rw [Nat.zero_add, List.nil_append] at hown3; exact hown3); clear hown3 hgrow3)) | (go_at_call 27; (refine (insert_any w2.heap.size v3 L k ⟨x, 0⟩ w3.heap.size _ (by have := HK3.out.size; simp; omega) (HO3.out.keep (S := fun _ => False) (by (repeat (first | exact Keep.refl _ _ | exact Keep.refl _ _ | refine Keep.drew ?_ | refine Keep.drewN ?_ _ | refine Keep.alloc ?_ _ | refine Keep.setNew ?_ (by omega) _)); done) (fun _ _ => id)) hk (by omega) (heap_alloc_new w3 _) (fun e => by have := (HO3.out.lt _ e).2; omega)).mono ?_; rintro e w5 ⟨v5, rfl, hO5, hg5⟩; have HK5 : Hid (Keep (fun _ => False) w2 w5) := (((HK3.out.mono (T := fun x => w2.heap.size ≤ x) (fun _ _ h => h.elim)).alloc _).trans (hg5.mono (T := fun x => w2.heap.size ≤ x) (fun x _ h => (HO3.out.lt x h).1))).fresh (fun _ h => h) (Nat.le_refl _); obtain ⟨a5, c5, rfl, -⟩ := hO5.slice; obtain ⟨hz3, hz4⟩ := keepS2 HK5.out hpl2 id hc0 fz; have HO5 := Lib.hid hO5; clear hO5 hg5)))
       go_ret
       exact ⟨rfl, k, make_close hP.out hR hk2 HR2.out HK5.out HO5.out hB hll⟩

end Go.Proofs.Ytdomdjfecnbenaa
