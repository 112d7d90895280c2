/- Compounds: the reference drops one; it turns a frame. -/
import Derived.Test.YtdomdjfecnbenaaZ
set_option linter.unusedVariables false
set_option linter.unusedSimpArgs false
namespace Go.Proofs.Ytdomdjfecnbenaa
open Go.RowKit Go.Own

theorem dropX_close {w w2 : World} {B q k T0 : Nat} {v : Value} {X : List On} {T : Int} {a2 : Option Addr} {l2 c2 : Nat} (hR : RepX w B q v X T) (hk : k < X.length) (hB : B ≤ w.heap.size)
    (HK2 : Keep (fun _ => False) w w2) (HO2 : w2.ownsRow w.heap.size 51 onE.k (.slice a2 l2 c2) (0 + k + (X.length - (k + 1))) ([] ++ onE.cs (X.take k) ++ onE.cs (X.drop (k + 1)))) :
    ∃ v', RepX (w2.setCell ⟨q, 0, none⟩ (.slice a2 l2 c2)) B q v' (rmv X k) T ∧ Keep (fun x => x = q) w (w2.setCell ⟨q, 0, none⟩ (.slice a2 l2 c2)) ∧
      (∀ x, v'.ownBlock = some x → w.heap.size ≤ x) := by
  have hpl := block_lt hR.hp
  have hO : OwnL onE w2 B 51 (.slice a2 l2 c2) (rmv X k) := by
    have := HO2
    rw [Nat.zero_add, List.nil_append, ← onE.cs_append] at this
    have h2 := ownsRow_base this (C := B) (fun x hx => by have := (HO2.lt x hx).1; omega)
    unfold OwnL rmv
    rw [List.length_append, List.length_take, List.length_drop, Nat.min_eq_left (Nat.le_of_lt hk)]
    exact h2
  have hlt2 := HO2.lt
  have KP := (Keep.refl (fun x => x = q) w2).setCell (p := ⟨q, 0, none⟩) (fun _ => rfl) (.slice a2 l2 c2)
  have hm : ∀ x, x ∈ rmv X k → x ∈ X := fun x hx => by
    rcases List.mem_append.mp hx with h | h
    · exact List.mem_of_mem_take h
    · exact List.mem_of_mem_drop h
  refine ⟨.slice a2 l2 c2, ⟨?_, ?_, ?_, ?_, ?_, ?_, fun x hx => hR.hf x (hm x hx), fun x hx => hR.hc x (hm x hx), hR.ht⟩, (HK2.mono (T := fun x => x = q) (fun _ _ h => h.elim)).setCell (fun _ => rfl) _, fun x hx => (hlt2 x hx).1⟩
  · rw [heap_setCell_eq ((HK2.block q hpl id).trans hR.hp)]; simp
  · exact hO.keep KP (fun x hx => by have := (hlt2 x hx).1; omega)
  · exact fun x hx => ((hR.hb x (hm x hx)).keep HK2 (fun _ _ => id)).keep KP (fun y hy => by simp [On.v, Value.ownBlock] at hy; have := (hR.nb x (hm x hx)).1; omega)
  · intro e; have := (hlt2 q e).1; omega
  · intro x hx
    refine ⟨(hR.nb x (hm x hx)).1, fun e => ?_⟩
    have := (hlt2 _ e).1; have := (hR.glt (hm x hx)).2; omega
  · rw [rmv_length hk]; have := hR.hl; omega

set_option maxRecDepth 100000 in
set_option maxHeartbeats 1000000 in
theorem dropX_any (B q k : Nat) (v : Value) (X : List On) (T : Int) (w : World) (hB : B ≤ w.heap.size) (hR : RepX w B q v X T) (hk : k < X.length) :
    Calls Try.prog 48 #[.pointer (some ⟨q, 0, none⟩), .int .i64 k] w fun e w' => e = .returned (.tuple #[]) ∧ ∃ v', RepX w' B q v' (rmv X k) T ∧ Keep (fun x => x = q) w w' ∧
      (∀ x, v'.ownBlock = some x → w.heap.size ≤ x) := by
  obtain ⟨g, cap, rfl, hBg, hcap, hgl⟩ := hR.hv.form (by intro e; subst e; simp at hk)
  have hl := hR.hl
  have hc0 := hR.c0
  have k0 : (0 : Int) ≤ k := by omega
  have k1 : (k : Int) ≤ cap := by omega
  have k2 : (k : Int) + 1 ≤ cap := by omega
  have k3 : (k : Int) + 1 ≤ X.length := by omega
  have hw1 : IntKind.i64.wrap (↑k + 1) = ↑k + 1 := IntWalk.i64_in _ (by omega)
  have hpl := block_lt hR.hp
  have fz : w.frozen? ⟨q, 0, none⟩ = false := frozen_block hR.hp
  obtain ⟨vlo, hlo, hrlo⟩ := sl_lo et41 hR.hv (Nat.le_of_lt hk)
  obtain ⟨vhi, hhi, hrhi⟩ := sl_hi et41 hR.hv (i := k + 1) (by omega) (↑k + 1) (by simp)
  have RLO := Lib.hid hrlo
  have RHI := Lib.hid hrhi
  clear hrlo hrhi
  go_enter Try.func48, Try.ntmps48
  go_wp2
  go_region_law
    (first | (refine step_app et41 (by rfl) (.tmp 5) (.tmp 11) (by rfl) w.heap.size (.slice (some ⟨w.heap.size, 0, none⟩) 0 0) 0 [] (by rfl) (own_empty_at (heap_alloc_new w _) (Nat.le_refl _)) vlo k (onE.cs (X.take k)) (by rfl) (RLO.out.keep (S := fun _ => False) (by (repeat (first | exact Keep.refl _ _ | exact Keep.refl _ _ | refine Keep.drew ?_ | refine Keep.drewN ?_ _ | refine Keep.alloc ?_ _ | refine Keep.setNew ?_ (by omega) _)); done) (fun _ _ _ _ => id)) (onE.cs_one_cell _) (by unfold maxLen; omega) (by omega) (by simp) ?_; intro v2 w2 hown1 hgrow1; have HK2 : Hid (Keep (fun _ => False) w w2) := Keep.grown (by (repeat (first | exact Keep.refl _ _ | exact Keep.refl _ _ | refine Keep.drew ?_ | refine Keep.drewN ?_ _ | refine Keep.alloc ?_ _ | refine Keep.setNew ?_ (by omega) _)); done) hgrow1 (fun x h1 h2 => by simp [Value.ownBlock] at h1; omega); obtain ⟨hz1, hz2⟩ := keepS2 HK2.out hpl id hc0 fz; have HO2 := Lib.hid hown1; clear hown1 hgrow1)
           | (refine step_app et41 (by rfl) (.tmp 12) (.tmp 19) (by rfl) w.heap.size v2 _ _ (by rfl) HO2.out vhi (X.length - (k + 1)) (onE.cs (X.drop (k + 1))) (by rfl) (RHI.out.keep HK2.out (fun _ _ _ _ => id)) (onE.cs_one_cell _) (by unfold maxLen; omega) (by omega) (by have := HK2.out.size; omega) ?_; intro v3 w3 hown2 hgrow2; obtain ⟨a2, l2, c2, rfl⟩ := own_slice hown2; have HK3 : Hid (Keep (fun _ => False) w w3) := Keep.grown HK2.out hgrow2 (fun x h1 h2 => by have := (HO2.out.lt x h1).1; omega); obtain ⟨hz3, hz4⟩ := keepS2 HK3.out hpl id hc0 fz; have HO3 := Lib.hid hown2; clear hown2 hgrow2))
  all_goals
    go_wp2
    go_end0
    exact ⟨rfl, dropX_close (T0 := 0) hR hk (by omega) HK3.out HO3.out⟩

/-- The stores of a turn. -/
theorem RepX.time {w : World} {B q : Nat} {v : Value} {X : List On} {T T' : Int} (h : RepX w B q v X T) (hT : 0 ≤ T' ∧ T' ≤ 100000) : RepX (w.setCell ⟨q, 1, none⟩ (.int .i64 T')) B q v X T' := by
  have KP := (Keep.refl (fun x => x = q) w).setCell (p := ⟨q, 1, none⟩) (fun _ => rfl) (.int .i64 T')
  refine ⟨?_, h.hv.keep KP (fun x e hx => h.nq (hx ▸ e)), fun x m => (h.hb x m).keep KP (fun y hy => by simp [On.v, Value.ownBlock] at hy; have := (h.nb x m).1; omega), h.nq, h.nb, h.hl, h.hf, h.hc, hT⟩
  rw [heap_setCell_eq h.hp]; simp
theorem RepX.put {w : World} {B q k g cap j : Nat} {X : List On} {T : Int} (h : RepX w B q (.slice (some ⟨g, 0, none⟩) X.length cap) X T) (hk : k < X.length) {y : On} {u : Value} (hj : j < 3) (hy : onE.c y = (onE.c X[k]).set j u)
    (hb : OwnL boE w B 4 y.v (bl y.b)) (hb2 : y.g ≠ q ∧ g ≠ y.g) (hf : 0 ≤ y.f ∧ y.f ≤ 1016 ∧ y.f % 8 = 0) (hc : y.b < 256) :
    RepX (w.setCell ⟨g, k * 3 + j, none⟩ u) B q (.slice (some ⟨g, 0, none⟩) X.length cap) (X.set k y) T := by
  have KP := (Keep.refl (fun x => x = g) w).setCell (p := ⟨g, k * 3 + j, none⟩) (fun _ => rfl) u
  have hne := h.nq
  simp [Value.ownBlock] at hne
  have hs := OwnL.set (j := j) (x := y) (u := u) h.hv hk hj hy
  have hm : ∀ x, x ∈ X.set k y → x ∈ X ∨ x = y := fun x hx => List.mem_or_eq_of_mem_set hx
  refine ⟨?_, hs, ?_, h.nq, ?_, by simpa using h.hl, ?_, ?_, h.ht⟩
  · rw [heap_setCell_ne (by simp; omega)]; exact h.hp
  · intro x hx
    rcases hm x hx with hx | rfl
    · exact (h.hb x hx).keep KP (fun y hy e => by simp [On.v, Value.ownBlock] at hy; have := (h.nb x hx).2; simp [Value.ownBlock] at this; omega)
    · exact hb.keep KP (fun y hy e => by simp [On.v, Value.ownBlock] at hy; omega)
  · intro x hx
    rcases hm x hx with hx | rfl
    · exact h.nb x hx
    · exact ⟨hb2.1, by simp [Value.ownBlock]; exact hb2.2⟩
  · intro x hx
    rcases hm x hx with hx | rfl
    · exact h.hf x hx
    · exact hf
  · intro x hx
    rcases hm x hx with hx | rfl
    · exact h.hc x hx
    · exact hc

/-- Since when, behind a turn. -/
def since (b b' : Nat) (s T : Int) : Int := if b' = 0 then 0 else if b = 0 then T else s

end Go.Proofs.Ytdomdjfecnbenaa
