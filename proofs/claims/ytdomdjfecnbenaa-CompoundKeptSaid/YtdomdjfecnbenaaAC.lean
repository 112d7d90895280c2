/- Compounds: the reference makes one. -/
import Derived.Test.YtdomdjfecnbenaaAB
import Derived.Deep.OwnRows
set_option linter.unusedVariables false
set_option linter.unusedSimpArgs false
namespace Go.Proofs.Ytdomdjfecnbenaa
open Go.RowKit Go.Own

theorem heap_two (w : World) (a b : Obj) : ((w.alloc a).alloc b).drew.heap[w.heap.size + 1]? = some b := by
  have h := heap_alloc_new (w.alloc a) b
  rw [World.size_alloc] at h
  exact h

theorem heap_one (w : World) (a b : Obj) : ((w.alloc a).alloc b).drew.heap[w.heap.size]? = some a := by
  show ((w.alloc a).alloc b).heap[w.heap.size]? = some a
  rw [heap_alloc_at, World.size_alloc, if_neg (by omega)]
  exact heap_alloc_new w a

theorem make28 (w : World) : (Instr.makeSlice 28 (.int .i64 8) (.int .i64 8)).run Try.prog w = .ok (.slice (some ⟨w.heap.size, 0, none⟩) 8 8) (w.alloc (.cells (boE.cs (bl 0)).toArray 4)) := by
  have h := run_make_row' (P := Try.prog) (w := w) 28 4 (.bool false) 1 Try.underlying28 info4 rfl .i64 .i64 8 (by omega) (by omega)
  have e : madeCells #[Value.bool false] 8 = (boE.cs (bl 0)).toArray := by kernel_rfl
  rw [e] at h
  exact h

theorem makeX_close {w w2 : World} {B q : Nat} {v v2 : Value} {X : List On} {T f : Int} {g1 : Nat} (hR : RepX w B q v X T) (hB : B ≤ w.heap.size) (hl : X.length ≤ 150) (hf : 0 ≤ f ∧ f ≤ 1016 ∧ f % 8 = 0)
    (HK2 : Keep (fun x => v.ownBlock = some x) w w2) (HO2 : w2.ownsRow B 51 onE.k v2 (X.length + 1) (onE.cs X ++ [.int .i64 f, .slice (some ⟨g1, 0, none⟩) 8 8, .int .i64 0]))
    (hv2 : ∀ x, v2.ownBlock = some x → v.ownBlock = some x ∨ g1 < x) (hg : w.heap.size ≤ g1) (hO : w2.heap[g1]? = some (.cells (boE.cs (bl 0)).toArray 4 (0, 0))) :
    ∃ v', RepX (w2.setCell ⟨q, 0, none⟩ v2) B q v' (X ++ [⟨f, g1, 8, 0, 0⟩]) T ∧ Keep (fun x => x = q ∨ v.ownBlock = some x) w (w2.setCell ⟨q, 0, none⟩ v2) ∧
      (∀ x, v'.ownBlock = some x → v.ownBlock = some x ∨ w.heap.size ≤ x) := by
  have hpl := block_lt hR.hp
  have KP := (Keep.refl (fun x => x = q) w2).setCell (p := ⟨q, 0, none⟩) (fun _ => rfl) v2
  have hO2 : OwnL onE w2 B 51 v2 (X ++ [⟨f, g1, 8, 0, 0⟩]) := by
    unfold OwnL
    rw [List.length_append, onE.cs_append, onE.cs_one]
    exact HO2
  have hbo : OwnL boE w2 B 4 (.slice (some ⟨g1, 0, none⟩) 8 8) (bl 0) :=
    OwnL.of_block (cur := boE.cs (bl 0)) hO rfl (Nat.le_refl _) (by unfold maxLen; omega) rfl (by rw [List.take_of_length_le (by rw [boE.cs_length]; exact Nat.le_refl _)]) (by omega)
  have hq2 : v2.ownBlock ≠ some q := by
    intro e
    rcases hv2 q e with h | h
    · exact hR.nq h
    · omega
  refine ⟨v2, ⟨?_, ?_, ?_, hq2, ?_, by simp; omega, ?_, ?_, hR.ht⟩, (HK2.mono (fun _ _ h => .inr h)).setCell (fun _ => .inl rfl) _, fun x hx => by rcases hv2 x hx with h | h; exact .inl h; exact .inr (by omega)⟩
  · rw [heap_setCell_eq ((HK2.block q hpl (fun e => hR.nq e)).trans hR.hp)]; simp
  · exact hO2.keep KP (fun x hx e => hq2 (e ▸ hx))
  · intro x hx
    rcases List.mem_append.mp hx with hx | hx
    · exact ((hR.hb x hx).keep HK2 (fun y hy e => by simp [On.v, Value.ownBlock] at hy; exact (hR.nb x hx).2 (hy ▸ e))).keep KP (fun y hy => by simp [On.v, Value.ownBlock] at hy; have := (hR.nb x hx).1; omega)
    · simp at hx; subst hx
      exact hbo.keep KP (fun y hy => by simp [On.v, Value.ownBlock] at hy; omega)
  · intro x hx
    rcases List.mem_append.mp hx with hx | hx
    · refine ⟨(hR.nb x hx).1, fun e => ?_⟩
      rcases hv2 _ e with h | h
      · exact (hR.nb x hx).2 h
      · have := (hR.glt hx).2; omega
    · simp at hx; subst hx
      refine ⟨by show g1 ≠ q; omega, fun e => ?_⟩
      rcases hv2 g1 e with h | h
      · have := (hR.hv.lt _ h).2; omega
      · omega
  · intro x hx
    rcases List.mem_append.mp hx with hx | hx
    · exact hR.hf x hx
    · simp at hx; subst hx; exact hf
  · intro x hx
    rcases List.mem_append.mp hx with hx | hx
    · exact hR.hc x hx
    · simp at hx; subst hx; exact (show (0 : Nat) < 256 by decide)

set_option maxHeartbeats 1000000 in
theorem makeX_range (q : Nat) (f : Int) (h : f < 0 ∨ 1016 < f) (w : World) : Calls Try.prog 41 #[.pointer (some ⟨q, 0, none⟩), .int .i64 f] w fun e w' => e = .returned (.int .i64 3) ∧ w = w' := by
  by_cases h0 : f < 0
  · go_enter Try.func41, Try.ntmps41
    go_wp2
    go_ret
    exact ⟨rfl, rfl⟩
  · have h1 : 1016 < f := by omega
    go_enter Try.func41, Try.ntmps41
    go_wp2
    go_ret
    exact ⟨rfl, rfl⟩

set_option maxHeartbeats 1000000 in
theorem makeX_align (q : Nat) (f : Int) (h0 : 0 ≤ f) (h1 : f ≤ 1016) (h8 : f % 8 ≠ 0) (w : World) : Calls Try.prog 41 #[.pointer (some ⟨q, 0, none⟩), .int .i64 f] w fun e w' => e = .returned (.int .i64 4) ∧ w = w' := by
  have hb : ((f % 8) != 0) = true := by simpa using h8
  clear h8
  go_enter Try.func41, Try.ntmps41
  go_wp2
  go_ret
  exact ⟨rfl, rfl⟩

set_option maxHeartbeats 1000000 in
theorem makeX_exist (B q : Nat) (v : Value) (X : List On) (T : Int) (f : Int) (h0 : 0 ≤ f) (h1 : f ≤ 1016) (h8 : f % 8 = 0) (w : World) (hR : RepX w B q v X T) (i : Nat) (hn : atX X f = i) :
    Calls Try.prog 41 #[.pointer (some ⟨q, 0, none⟩), .int .i64 f] w fun e w' => e = .returned (.int .i64 7) ∧ w = w' := by
  have hb : ((f % 8) != 0) = false := by simpa using h8
  have HN := Lib.hid hn
  clear h8 hn
  go_enter Try.func41, Try.ntmps41
  go_wp2_with (go_at_call 17; refine (at_any B q v X T f _ hR).mono ?_; rw [HN.out]; rintro e w1 ⟨rfl, rfl⟩)
  go_ret
  exact ⟨rfl, rfl⟩

def MadeX (w : World) (B q : Nat) (v : Value) (X : List On) (T f : Int) (e : Ending) (w' : World) : Prop :=
  e = .returned (.int .i64 0) ∧ ∃ v' g1, RepX w' B q v' (X ++ [⟨f, g1, 8, 0, 0⟩]) T ∧ Keep (fun x => x = q ∨ v.ownBlock = some x) w w' ∧ (∀ x, v'.ownBlock = some x → v.ownBlock = some x ∨ w.heap.size ≤ x)

set_option maxRecDepth 100000 in
set_option maxHeartbeats 2000000 in
theorem makeX_any (B q : Nat) (v : Value) (X : List On) (T : Int) (f : Int) (h0 : 0 ≤ f) (h1 : f ≤ 1016) (h8 : f % 8 = 0) (w : World) (hB : B ≤ w.heap.size) (hl : X.length ≤ 150) (hR : RepX w B q v X T) (hn : atX X f = -1) :
    Calls Try.prog 41 #[.pointer (some ⟨q, 0, none⟩), .int .i64 f] w (MadeX w B q v X T f) := by
  have hb : ((f % 8) != 0) = false := by simpa using h8
  have H8 := Lib.hid h8
  have HN := Lib.hid hn
  have hmk := make28
  have hc0 := hR.c0
  have hpl := block_lt hR.hp
  have fz : w.frozen? ⟨q, 0, none⟩ = false := frozen_block hR.hp
  clear h8 hn
  go_enter Try.func41, Try.ntmps41
  go_wp2_with (go_at_call 17; refine (at_any B q v X T f _ hR).mono ?_; rw [HN.out]; rintro e w1 ⟨rfl, rfl⟩)
  refine wp_region_noPanic ?_
  refine wp_region_L (fun w' => w'.cell? ⟨q, 0, none⟩ = some v ∧ w'.frozen? ⟨q, 0, none⟩ = false) 12 (by kernel_rfl) (by (refine keepS2 (S := fun x => v.ownBlock = some x) ?_ hpl hR.nq hc0 fz; (repeat (first | exact HK27.out | exact Keep.refl _ _ | refine Keep.drew ?_ | refine Keep.drewN ?_ _ | refine Keep.alloc ?_ _ | refine Keep.setNew ?_ (by omega) _)); done)) (fun hS0 => ?_)
  refine wpAnyL_take 0 (v := ?_) rfl (by kernel_rfl) (by kernel_rfl) (by kernel_rfl) (by kernel_rfl) (fun _ _ _ h => h) (Or.inl ⟨by rfl, ?_⟩) (by assumption) ?_
  rotate_left
  · (intro w hSw; (try dsimp only at hSw); go_split_ands; go_simp; try (with_reducible rfl))
  simp only [Act.put, List.setIfInBounds_toArray, List.set_cons_zero, List.set_cons_succ]
  refine wpAnyL_take 1 (v := ?_) rfl (by kernel_rfl) (by kernel_rfl) (by kernel_rfl) (by kernel_rfl) (fun _ _ _ h => h) (Or.inl ⟨by rfl, ?_⟩) (by assumption) ?_
  rotate_left
  · (intro w hSw; (try dsimp only at hSw); go_split_ands; go_simp; try (with_reducible rfl))
  simp only [Act.put, List.setIfInBounds_toArray, List.set_cons_zero, List.set_cons_succ]
  refine wpAnyL_take 2 (v := ?_) rfl (by kernel_rfl) (by kernel_rfl) (by kernel_rfl) (by kernel_rfl) (fun _ _ _ h => h) (Or.inl ⟨by rfl, ?_⟩) (by assumption) ?_
  rotate_left
  · (intro w hSw; (try dsimp only at hSw); go_split_ands; go_simp; try (with_reducible rfl))
  simp only [Act.put, List.setIfInBounds_toArray, List.set_cons_zero, List.set_cons_succ]
  refine wpAnyL_take 3 (v := ?_) rfl (by kernel_rfl) (by kernel_rfl) (by kernel_rfl) (by kernel_rfl) (fun _ _ _ h => h) (Or.inl ⟨by rfl, ?_⟩) (by assumption) ?_
  rotate_left
  · (intro w hSw; (try dsimp only at hSw); go_split_ands; go_simp; try (with_reducible rfl))
  simp only [Act.put, List.setIfInBounds_toArray, List.set_cons_zero, List.set_cons_succ]
  refine wpAnyL_take 4 (v := ?_) rfl (by kernel_rfl) (by kernel_rfl) (by kernel_rfl) (by kernel_rfl) (fun _ _ _ h => h) (Or.inl ⟨by rfl, ?_⟩) (by assumption) ?_
  rotate_left
  · (intro w hSw; (try dsimp only at hSw); go_split_ands; go_simp; try (with_reducible rfl))
  simp only [Act.put, List.setIfInBounds_toArray, List.set_cons_zero, List.set_cons_succ]
  refine wpAnyL_take 5 (v := ?_) rfl (by kernel_rfl) (by kernel_rfl) (by kernel_rfl) (by kernel_rfl) (fun _ _ _ h => h) (Or.inl ⟨by rfl, ?_⟩) (by assumption) ?_
  rotate_left
  · (intro w hSw; (try dsimp only at hSw); go_split_ands; go_simp; try (with_reducible rfl))
  simp only [Act.put, List.setIfInBounds_toArray, List.set_cons_zero, List.set_cons_succ]
  refine wpAnyL_ready (rs := [6]) (by kernel_rfl) (by simp) ?_
  refine AllReadyL.cons rfl (fun K hK => ?_) ?_
  · go_simp
    refine hK.out _ _ (.inr (by (refine keepS2 (S := fun x => v.ownBlock = some x) ?_ hpl hR.nq hc0 fz; (repeat (first | exact HK27.out | exact Keep.refl _ _ | refine Keep.drew ?_ | refine Keep.drewN ?_ _ | refine Keep.alloc ?_ _ | refine Keep.setNew ?_ (by omega) _)); done))) (fun hS6 => ?_)
    replace hS6 := hS6.resolve_left (by decide)
    try simp only [Act.put, List.setIfInBounds_toArray, List.set_cons_zero, List.set_cons_succ]
    refine wpAnyL_take 7 (v := ?_) rfl (by kernel_rfl) (by kernel_rfl) (by kernel_rfl) (by kernel_rfl) (fun _ _ _ h => h) (Or.inl ⟨by rfl, ?_⟩) (by assumption) ?_
    rotate_left
    · (intro w hSw; (try dsimp only at hSw); go_split_ands; go_simp; try (with_reducible rfl))
    simp only [Act.put, List.setIfInBounds_toArray, List.set_cons_zero, List.set_cons_succ]
    refine wpAnyL_ready (rs := [8]) (by kernel_rfl) (by simp) ?_
    refine AllReadyL.cons rfl (fun K hK => ?_) ?_
    · go_simp
      refine hK.out _ _ (.inr (by (refine keepS2 (S := fun x => v.ownBlock = some x) ?_ hpl hR.nq hc0 fz; (repeat (first | exact HK27.out | exact Keep.refl _ _ | refine Keep.drew ?_ | refine Keep.drewN ?_ _ | refine Keep.alloc ?_ _ | refine Keep.setNew ?_ (by omega) _)); done))) (fun hS8 => ?_)
      replace hS8 := hS8.resolve_left (by decide)
      try simp only [Act.put, List.setIfInBounds_toArray, List.set_cons_zero, List.set_cons_succ]
      refine wpAnyL_ready (rs := [9]) (by kernel_rfl) (by simp) ?_
      refine AllReadyL.cons rfl (fun K hK => ?_) ?_
      · refine step_appF et41 rfl (.tmp 22) (.tmp 26) rfl B v X.length (onE.cs X) (by rfl) (hR.hv.keep (S := fun _ => False) (by (repeat (first | exact Keep.refl _ _ | exact Keep.refl _ _ | refine Keep.drew ?_ | refine Keep.drewN ?_ _ | refine Keep.alloc ?_ _ | refine Keep.setNew ?_ (by omega) _)); done) (fun _ _ => id)) ⟨w.heap.size + 1, 0, none⟩ 1 1 [.int .i64 f, .slice (some ⟨w.heap.size, 0, none⟩) 8 8, .int .i64 0] (by rfl) rfl (new_cells (heap_two w _ _)) (by simp [Value.oneCell']) (by unfold maxLen; omega) (by omega) (by simp; omega) ?_
        intro v27 w27 ho27 hg27 hf27
        obtain ⟨a27, l27, c27, rfl⟩ := own_slice ho27
        have HK27 : Hid (Keep (fun x => v.ownBlock = some x) w w27) := Keep.grown (by (repeat (first | exact Keep.refl _ _ | exact Keep.refl _ _ | refine Keep.drew ?_ | refine Keep.drewN ?_ _ | refine Keep.alloc ?_ _ | refine Keep.setNew ?_ (by omega) _)); done) hg27 (fun x h1 h2 => h1)
        have HO27 := Lib.hid ho27
        have HG27 := Lib.hid hg27
        have HF27 : Hid (∀ x, (Value.slice a27 l27 c27).ownBlock = some x → v.ownBlock = some x ∨ w.heap.size < x) := fun x hx => (hf27 x hx).imp id (fun h => by simp at h; omega)
        have HM27 : Hid (w27.heap[w.heap.size]? = some (.cells (boE.cs (bl 0)).toArray 4 (0, 0))) := (hg27.block w.heap.size (by simp; omega) (fun e => by have := (hR.hv.lt _ e.symm).2; omega)).trans (heap_one w _ _)
        clear ho27 hg27 hf27
        refine hK.out _ _ (.inr (by (refine keepS2 (S := fun x => v.ownBlock = some x) ?_ hpl hR.nq hc0 fz; (repeat (first | exact HK27.out | exact Keep.refl _ _ | refine Keep.drew ?_ | refine Keep.drewN ?_ _ | refine Keep.alloc ?_ _ | refine Keep.setNew ?_ (by omega) _)); done))) (fun hS9 => ?_)
        replace hS9 := hS9.resolve_left (by decide)
        try simp only [Act.put, List.setIfInBounds_toArray, List.set_cons_zero, List.set_cons_succ]
        refine wpAnyL_ready (rs := [10]) (by kernel_rfl) (by simp) ?_
        refine AllReadyL.cons rfl (fun K hK => ?_) ?_
        · go_simp
          refine hK.out _ _ (.inr (by (refine keepS2 (S := fun x => v.ownBlock = some x) ?_ hpl hR.nq hc0 fz; (repeat (first | exact HK27.out | exact Keep.refl _ _ | refine Keep.drew ?_ | refine Keep.drewN ?_ _ | refine Keep.alloc ?_ _ | refine Keep.setNew ?_ (by omega) _)); done))) (fun hS10 => ?_)
          replace hS10 := hS10.resolve_left (by decide)
          try simp only [Act.put, List.setIfInBounds_toArray, List.set_cons_zero, List.set_cons_succ]
          refine wpAnyL_take 11 (v := ?_) rfl (by kernel_rfl) (by kernel_rfl) (by kernel_rfl) (by kernel_rfl) (fun _ _ _ h => h) (Or.inl ⟨by rfl, ?_⟩) (by assumption) ?_
          rotate_left
          · (intro w hSw; (try dsimp only at hSw); go_split_ands; go_simp; try (with_reducible rfl))
          simp only [Act.put, List.setIfInBounds_toArray, List.set_cons_zero, List.set_cons_succ]
          refine wpAnyL_ready (rs := [12]) (by kernel_rfl) (by simp) ?_
          refine AllReadyL.cons rfl (fun K hK => ?_) ?_
          · go_simp
            refine hK.out _ _ (.inl rfl) (fun _ => ?_)
            try simp only [Act.put, List.setIfInBounds_toArray, List.set_cons_zero, List.set_cons_succ]
            refine wpAnyL_done (by kernel_rfl) ?_ _
            refine NoPanic.normal ?_
            have hq9 := makeX_close (f := f) (g1 := w.heap.size) hR hB hl ⟨h0, h1, H8.out⟩ HK27.out HO27.out HF27.out (Nat.le_refl _) HM27.out
            have HQ9 := Lib.hid hq9
            clear hq9
            go_wp2
            go_ret
            obtain ⟨v', h1, h2, h3⟩ := HQ9.out
            exact ⟨rfl, v', _, h1, h2, h3⟩
          exact AllReadyL.nil
        exact AllReadyL.nil
      exact AllReadyL.nil
    exact AllReadyL.nil
  exact AllReadyL.nil

end Go.Proofs.Ytdomdjfecnbenaa
