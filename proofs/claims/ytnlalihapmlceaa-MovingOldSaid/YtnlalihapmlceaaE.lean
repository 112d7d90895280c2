/- Moves: Begin, where it goes through. -/
import Derived.Test.YtnlalihapmlceaaD
set_option linter.unusedVariables false
set_option linter.unusedSimpArgs false
namespace Go.Proofs.Ytnlalihapmlceaa
open Go.RowKit Go.Own
set_option maxHeartbeats 2000000 in
theorem begin_yes (B p : Nat) (v : Value) (most : Int) (L : List Mv) (f t : Int) (w : World) (hB : B ≤ w.heap.size) (hR : RepM w B p v most L) (hyes : beginE L most f t = 0) :
    Calls Try.prog 17 #[.pointer (some ⟨p, 0, none⟩), .int .i64 f, .int .i64 t] w fun e w' => e = .returned (.int .i64 0) ∧ ∃ v', RepM w' B p v' most (beginL L f t) ∧ Keep (fun x => x = p) w w' ∧ (∀ x, v'.ownBlock = some x → w.heap.size ≤ x) := by
  have hpl := block_lt hR.hp
  have hne : w.heap.size ≠ p := by omega
  have hl0 := hR.hl
  have HR1 := Lib.hid (hR.keep (w' := w.alloc (.cells #[.pointer (some ⟨p, 0, none⟩)] 25)) (by (repeat (first | exact Keep.refl (fun _ => False) _ | exact Keep.refl _ _ | refine Keep.drew ?_ | refine Keep.drewN ?_ _ | refine Keep.alloc ?_ _ | refine Keep.setNew ?_ (by omega) _)); done) id (fun _ _ => id))
  have hbc : (w.alloc (.cells #[.pointer (some ⟨p, 0, none⟩)] 25)).cell? ⟨w.heap.size, 0, none⟩ = some (.pointer (some ⟨p, 0, none⟩)) := by simp
  unfold beginE at hyes
  have h1 : ¬ (frameB f = false ∨ frameB t = false) := by intro h; rw [if_pos h] at hyes; omega
  rw [if_neg h1] at hyes
  have h2 : f ≠ t := by intro h; rw [if_pos h] at hyes; omega
  rw [if_neg h2] at hyes
  have h3 : ¬ ((findM L f).isSome = true ∨ (findM L t).isSome = true) := by intro h; rw [if_pos h] at hyes; omega
  rw [if_neg h3] at hyes
  have h5 : ¬ most ≤ L.length := by intro h; rw [if_pos h] at hyes; omega
  have hf : frameB f = true := by simpa using fun h => h1 (.inl h)
  have ht : frameB t = true := by simpa using fun h => h1 (.inr h)
  have h2' : (f == t) = false := by simpa using h2
  have h3' : (findM L f).isSome = false := by simpa using fun h => h3 (.inl h)
  have h4' : (findM L t).isSome = false := by simpa using fun h => h3 (.inr h)
  have h5' : (L.length : Int) < most := by omega
  have hm2 := hR.m2
  have hl64 : L.length < 64 := by omega
  obtain ⟨a, c, rfl, hag⟩ := hR.hv.slice
  have HAG := Lib.hid hag
  clear hyes h1 h2 h3 h5 hag
  go_enter Try.func17, Try.ntmps17
  go_wp2_with (first | (go_at_call 34; refine (frame_any _ _).mono ?_; rintro e w1 ⟨rfl, rfl⟩) | (go_at_call 35; refine (taken_any _ B p _ most L _ _ hbc2 HR2.out).mono ?_; rintro e w2 ⟨rfl, hk2⟩) | (go_at_call 35; refine (taken_any _ B p _ most L _ _ hbc HR1.out).mono ?_; rintro e w1 ⟨rfl, hk1⟩; have hbc2 := (hk1.cell (by simp) id).trans hbc; have HR2 := Lib.hid (HR1.out.keep hk1 id (fun _ _ => id))))
  have hK0 : Hid (Keep (fun _ => False) w w2) := Keep.trans (Keep.trans (((Keep.refl _ w).alloc _)) hk1) hk2
  have hbl : w.heap.size < w2.heap.size := by have h1 := hk1.size; have h2 := hk2.size; simp at h1; omega
  have hbc3 := (hk2.cell (by have := hk1.size; simp at this; omega) id).trans hbc2
  have HRA := Lib.hid (HR2.out.keep hk2 id (fun _ _ => id))
  clear hbc hbc2 hk1 hk2
  have hc1 := HRA.out.c1
  have hc0 := HRA.out.c0
  go_quiet (fail)
  go_wp2
  go_loop [9] (fun i => ∃ k : Nat, k ≤ L.length ∧ i = .int .i64 k ∧ ∀ j, j < k → (h : j < L.length) → L[j].f < f) (fun i => L.length - (intOf i).toNat)
  case atStart => exact ⟨0, by omega, rfl, fun j hj => by omega⟩
  case round =>
    obtain ⟨k, hk, rfl, hr⟩ := hrel
    have HRL := Lib.hid hr
    clear hr
    by_cases hlt : k < L.length
    · obtain ⟨g, rfl⟩ := HAG.out (by intro e; subst e; simp at hlt)
      obtain ⟨c0, c1, c2, c3⟩ := mv_cells HRA.out.hv hlt
      by_cases hlf : L[k].f < f
      · go_wp2
        go_round
        case rel =>
          refine ⟨k + 1, by omega, by go_num, fun j hj hjl => ?_⟩
          by_cases e : j = k
          · subst e; exact hlf
          · exact HRL.out j (by omega) hjl
        case measure => simp [intOf]; omega
      · have hins : Hid (insK L f = k) := insK_eq hk HRL.out (fun _ => hlf)
        have hk0 : (0 : Int) ≤ k := by omega
        have hbl2 := hbl
        have hpl2 : p < w2.heap.size := block_lt HRA.out.hp
        have hfz : w2.frozen? ⟨p, 1, none⟩ = false := frozen_block HRA.out.hp
        obtain ⟨vlo, hlo, hrlo⟩ := sl_lo et36 HRA.out.hv (Nat.le_of_lt hlt)
        obtain ⟨vhi, hhi, hrhi⟩ := sl_hi et36 HRA.out.hv (i := k) (by omega) ↑k rfl
        have RLO := Lib.hid hrlo
        have RHI := Lib.hid hrhi
        clear hrlo hrhi
        go_wp2
        refine wp_region_noPanic ?_
        refine wp_region_L (fun w' => w'.cell? ⟨w.heap.size, 0, none⟩ = some (.pointer (some ⟨p, 0, none⟩)) ∧ w'.cell? ⟨p, 1, none⟩ = some (.slice (some ⟨g, 0, none⟩) L.length c) ∧ w'.frozen? ⟨p, 1, none⟩ = false) 23 (by kernel_rfl) (by (refine sB ?_ hbl2 hpl2 hbc3 hc1 hfz; (repeat (first | exact HK90.out | exact HK83.out | exact HK78.out | exact Keep.refl _ _ | refine Keep.drew ?_ | refine Keep.drewN ?_ _ | refine Keep.alloc ?_ _ | refine Keep.setNew ?_ (by omega) _)); done)) (fun hS0 => ?_)
        refine wpAnyL_take 0 (v := ?_) rfl (by kernel_rfl) (by kernel_rfl) (by kernel_rfl) (by kernel_rfl) (fun _ _ _ h => h) (Or.inl ⟨by rfl, ?_⟩) (by assumption) ?_
        rotate_left
        · (intro w hSw; (try dsimp only at hSw); go_split_ands; go_simp; try (with_reducible rfl))
        simp only [Act.put, List.setIfInBounds_toArray, List.set_cons_zero, List.set_cons_succ]
        refine wpAnyL_take 2 (v := ?_) rfl (by kernel_rfl) (by kernel_rfl) (by kernel_rfl) (by kernel_rfl) (fun _ _ _ h => h) (Or.inl ⟨by rfl, ?_⟩) (by assumption) ?_
        rotate_left
        · (intro w hSw; (try dsimp only at hSw); go_split_ands; go_simp; try (with_reducible rfl))
        simp only [Act.put, List.setIfInBounds_toArray, List.set_cons_zero, List.set_cons_succ]
        refine wpAnyL_take 3 (v := ?_) rfl (by kernel_rfl) (by kernel_rfl) (by kernel_rfl) (by kernel_rfl) (fun _ _ _ h => h) (Or.inl ⟨by rfl, ?_⟩) (by assumption) ?_
        rotate_left
        · (intro w hSw; (try dsimp only at hSw); go_split_ands; go_simp; try (with_reducible rfl))
        simp only [Act.put, List.setIfInBounds_toArray, List.set_cons_zero, List.set_cons_succ]
        refine wpAnyL_take 4 (v := ?_) rfl (by kernel_rfl) (by kernel_rfl) (by kernel_rfl) (by kernel_rfl) (fun _ _ _ h => h) (Or.inl ⟨by rfl, ?_⟩) (by assumption) ?_
        rotate_left
        · (intro w hSw; (try dsimp only at hSw); go_split_ands; go_simp; try (with_reducible rfl))
        simp only [Act.put, List.setIfInBounds_toArray, List.set_cons_zero, List.set_cons_succ]
        refine wpAnyL_take 5 (v := ?_) rfl (by kernel_rfl) (by kernel_rfl) (by kernel_rfl) (by kernel_rfl) (fun _ _ _ h => h) (Or.inl ⟨by rfl, ?_⟩) (by assumption) ?_
        rotate_left
        · (intro w hSw; (try dsimp only at hSw); go_split_ands; go_simp; try (with_reducible rfl))
        simp only [Act.put, List.setIfInBounds_toArray, List.set_cons_zero, List.set_cons_succ]
        refine wpAnyL_take 6 (v := ?_) rfl (by kernel_rfl) (by kernel_rfl) (by kernel_rfl) (by kernel_rfl) (fun _ _ _ h => h) (Or.inl ⟨by rfl, ?_⟩) (by assumption) ?_
        rotate_left
        · (intro w hSw; (try dsimp only at hSw); go_split_ands; go_simp; try (with_reducible rfl))
        simp only [Act.put, List.setIfInBounds_toArray, List.set_cons_zero, List.set_cons_succ]
        refine wpAnyL_take 7 (v := ?_) rfl (by kernel_rfl) (by kernel_rfl) (by kernel_rfl) (by kernel_rfl) (fun _ _ _ h => h) (Or.inl ⟨by rfl, ?_⟩) (by assumption) ?_
        rotate_left
        · (intro w hSw; (try dsimp only at hSw); go_split_ands; go_simp; try (with_reducible rfl))
        simp only [Act.put, List.setIfInBounds_toArray, List.set_cons_zero, List.set_cons_succ]
        refine wpAnyL_take 9 (v := ?_) rfl (by kernel_rfl) (by kernel_rfl) (by kernel_rfl) (by kernel_rfl) (fun _ _ _ h => h) (Or.inl ⟨by rfl, ?_⟩) (by assumption) ?_
        rotate_left
        · (intro w hSw; (try dsimp only at hSw); go_split_ands; go_simp; try (with_reducible rfl))
        simp only [Act.put, List.setIfInBounds_toArray, List.set_cons_zero, List.set_cons_succ]
        refine wpAnyL_take 10 (v := ?_) rfl (by kernel_rfl) (by kernel_rfl) (by kernel_rfl) (by kernel_rfl) (fun _ _ _ h => h) (Or.inl ⟨by rfl, ?_⟩) (by assumption) ?_
        rotate_left
        · (intro w hSw; (try dsimp only at hSw); go_split_ands; go_simp; try (with_reducible rfl))
        simp only [Act.put, List.setIfInBounds_toArray, List.set_cons_zero, List.set_cons_succ]
        refine wpAnyL_take 11 (v := ?_) rfl (by kernel_rfl) (by kernel_rfl) (by kernel_rfl) (by kernel_rfl) (fun _ _ _ h => h) (Or.inl ⟨by rfl, ?_⟩) (by assumption) ?_
        rotate_left
        · (intro w hSw; (try dsimp only at hSw); go_split_ands; go_simp; try (with_reducible rfl))
        simp only [Act.put, List.setIfInBounds_toArray, List.set_cons_zero, List.set_cons_succ]
        refine wpAnyL_take 14 (v := ?_) rfl (by kernel_rfl) (by kernel_rfl) (by kernel_rfl) (by kernel_rfl) (fun _ _ _ h => h) (Or.inl ⟨by rfl, ?_⟩) (by assumption) ?_
        rotate_left
        · (intro w hSw; (try dsimp only at hSw); go_split_ands; go_simp; try (with_reducible rfl))
        simp only [Act.put, List.setIfInBounds_toArray, List.set_cons_zero, List.set_cons_succ]
        refine wpAnyL_take 15 (v := ?_) rfl (by kernel_rfl) (by kernel_rfl) (by kernel_rfl) (by kernel_rfl) (fun _ _ _ h => h) (Or.inl ⟨by rfl, ?_⟩) (by assumption) ?_
        rotate_left
        · (intro w hSw; (try dsimp only at hSw); go_split_ands; go_simp; try (with_reducible rfl))
        simp only [Act.put, List.setIfInBounds_toArray, List.set_cons_zero, List.set_cons_succ]
        refine wpAnyL_take 16 (v := ?_) rfl (by kernel_rfl) (by kernel_rfl) (by kernel_rfl) (by kernel_rfl) (fun _ _ _ h => h) (Or.inl ⟨by rfl, ?_⟩) (by assumption) ?_
        rotate_left
        · (intro w hSw; (try dsimp only at hSw); go_split_ands; go_simp; try (with_reducible rfl))
        simp only [Act.put, List.setIfInBounds_toArray, List.set_cons_zero, List.set_cons_succ]
        refine wpAnyL_take 17 (v := ?_) rfl (by kernel_rfl) (by kernel_rfl) (by kernel_rfl) (by kernel_rfl) (fun _ _ _ h => h) (Or.inl ⟨by rfl, ?_⟩) (by assumption) ?_
        rotate_left
        · (intro w hSw; (try dsimp only at hSw); go_split_ands; go_simp; try (with_reducible rfl))
        simp only [Act.put, List.setIfInBounds_toArray, List.set_cons_zero, List.set_cons_succ]
        refine wpAnyL_take 18 (v := ?_) rfl (by kernel_rfl) (by kernel_rfl) (by kernel_rfl) (by kernel_rfl) (fun _ _ _ h => h) (Or.inl ⟨by rfl, ?_⟩) (by assumption) ?_
        rotate_left
        · (intro w hSw; (try dsimp only at hSw); go_split_ands; go_simp; try (with_reducible rfl))
        simp only [Act.put, List.setIfInBounds_toArray, List.set_cons_zero, List.set_cons_succ]
        refine wpAnyL_take 19 (v := ?_) rfl (by kernel_rfl) (by kernel_rfl) (by kernel_rfl) (by kernel_rfl) (fun _ _ _ h => h) (Or.inl ⟨by rfl, ?_⟩) (by assumption) ?_
        rotate_left
        · (intro w hSw; (try dsimp only at hSw); go_split_ands; go_simp; try (with_reducible rfl))
        simp only [Act.put, List.setIfInBounds_toArray, List.set_cons_zero, List.set_cons_succ]
        refine wpAnyL_ready (rs := [1, 12]) (by kernel_rfl) (by simp) ?_
        refine AllReadyL.cons rfl (fun K hK => ?_) ?_
        · go_simp
          refine hK.out _ _ (.inr (by (refine sB ?_ hbl2 hpl2 hbc3 hc1 hfz; (repeat (first | exact HK90.out | exact HK83.out | exact HK78.out | exact Keep.refl _ _ | refine Keep.drew ?_ | refine Keep.drewN ?_ _ | refine Keep.alloc ?_ _ | refine Keep.setNew ?_ (by omega) _)); done))) (fun hS16 => ?_)
          replace hS16 := hS16.resolve_left (by decide)
          try simp only [Act.put, List.setIfInBounds_toArray, List.set_cons_zero, List.set_cons_succ]
          refine wpAnyL_ready (rs := [8, 12]) (by kernel_rfl) (by simp) ?_
          refine AllReadyL.cons rfl (fun K hK => ?_) ?_
          · refine step_app et36 (by rfl) (.tmp 71) (.tmp 77) (by rfl) w2.heap.size _ 0 [] (by rfl) (own_empty_at (by simp only [heap_alloc_at, heap_drewN, heap_drew, World.size_alloc, Nat.left_eq_add, Nat.add_eq_left, Nat.reduceEqDiff, reduceIte, Nat.succ_ne_self, Nat.add_left_cancel_iff]) (by simp)) vlo k (mvE.cs (L.take k)) (by rfl) (RLO.out.keep (S := fun _ => False) (by (repeat (first | exact Keep.refl _ _ | exact Keep.refl _ _ | refine Keep.drew ?_ | refine Keep.drewN ?_ _ | refine Keep.alloc ?_ _ | refine Keep.setNew ?_ (by omega) _)); done) (fun _ _ _ _ => id)) (mvE.cs_one_cell _) (by unfold maxLen; omega) (by omega) (by simp <;> omega) ?_
            intro v78 w78 ho78 hg78
            have HK78 : Hid (Keep (fun _ => False) w2 w78) := Keep.grown (by (repeat (first | exact Keep.refl _ _ | exact Keep.refl _ _ | refine Keep.drew ?_ | refine Keep.drewN ?_ _ | refine Keep.alloc ?_ _ | refine Keep.setNew ?_ (by omega) _)); done) hg78 (fun x h1 h2 => by simp [Value.ownBlock] at h1; omega)
            have HO78 := Lib.hid ho78
            have HG78 := Lib.hid hg78
            clear ho78 hg78
            refine hK.out _ _ (.inr (by (refine sB ?_ hbl2 hpl2 hbc3 hc1 hfz; (repeat (first | exact HK90.out | exact HK83.out | exact HK78.out | exact Keep.refl _ _ | refine Keep.drew ?_ | refine Keep.drewN ?_ _ | refine Keep.alloc ?_ _ | refine Keep.setNew ?_ (by omega) _)); done))) (fun hS17 => ?_)
            replace hS17 := hS17.resolve_left (by decide)
            try simp only [Act.put, List.setIfInBounds_toArray, List.set_cons_zero, List.set_cons_succ]
            refine wpAnyL_ready (rs := [12]) (by kernel_rfl) (by simp) ?_
            refine AllReadyL.cons rfl (fun K hK => ?_) ?_
            · go_simp
              refine hK.out _ _ (.inr (by (refine sB ?_ hbl2 hpl2 hbc3 hc1 hfz; (repeat (first | exact HK90.out | exact HK83.out | exact HK78.out | exact Keep.refl _ _ | refine Keep.drew ?_ | refine Keep.drewN ?_ _ | refine Keep.alloc ?_ _ | refine Keep.setNew ?_ (by omega) _)); done))) (fun hS18 => ?_)
              replace hS18 := hS18.resolve_left (by decide)
              try simp only [Act.put, List.setIfInBounds_toArray, List.set_cons_zero, List.set_cons_succ]
              refine wpAnyL_ready (rs := [13]) (by kernel_rfl) (by simp) ?_
              refine AllReadyL.cons rfl (fun K hK => ?_) ?_
              · refine step_app et36 (by rfl) (.tmp 78) (.tmp 82) (by rfl) w2.heap.size v78 _ _ (by rfl) (by first | exact HO78.out | exact HO78.out.alloc _ | fail) _ 1 [.int .i64 f, .int .i64 t, .int .i64 1, .int .i64 0] (by rfl) (by refine Reads.new (e := 31) (z := (0, 0)) ?_ rfl _; first | (refine (HG78.out.block _ ?_ ?_).trans ?_; all_goals (first | (simp only [heap_alloc_at, heap_drewN, heap_drew, World.size_alloc, Nat.left_eq_add, Nat.add_eq_left, Nat.reduceEqDiff, reduceIte, Nat.succ_ne_self, Nat.add_left_cancel_iff]; done) | (simp [Value.ownBlock, Act.eval]; done) | (simp only [World.size_alloc, World.size_drew, heap_drewN]; omega) | (show some _ ≠ some _; simp; done) | (show some _ ≠ some _; intro hh; injection hh; omega))) | (simp only [heap_alloc_at, heap_drewN, heap_drew, World.size_alloc, Nat.left_eq_add, Nat.add_eq_left, Nat.reduceEqDiff, reduceIte, Nat.succ_ne_self, Nat.add_left_cancel_iff]; done) | fail) (by simp [Value.oneCell']) (by unfold maxLen; omega) (by omega) (by have := HK78.out.size; simp <;> omega) ?_
                intro v83 w83 ho83 hg83
                have HK83 : Hid (Keep (fun _ => False) w2 w83) := Keep.grown (by (repeat (first | exact HK78.out | exact Keep.refl _ _ | refine Keep.drew ?_ | refine Keep.drewN ?_ _ | refine Keep.alloc ?_ _ | refine Keep.setNew ?_ (by omega) _)); done) hg83 (fun x h1 h2 => by have := (HO78.out.lt x h1).1; omega)
                have HO83 := Lib.hid ho83
                clear ho83 hg83
                refine hK.out _ _ (.inr (by (refine sB ?_ hbl2 hpl2 hbc3 hc1 hfz; (repeat (first | exact HK90.out | exact HK83.out | exact HK78.out | exact Keep.refl _ _ | refine Keep.drew ?_ | refine Keep.drewN ?_ _ | refine Keep.alloc ?_ _ | refine Keep.setNew ?_ (by omega) _)); done))) (fun hS19 => ?_)
                replace hS19 := hS19.resolve_left (by decide)
                try simp only [Act.put, List.setIfInBounds_toArray, List.set_cons_zero, List.set_cons_succ]
                refine wpAnyL_ready (rs := [20]) (by kernel_rfl) (by simp) ?_
                refine AllReadyL.cons rfl (fun K hK => ?_) ?_
                · refine step_app et36 (by rfl) (.tmp 83) (.tmp 89) (by rfl) w2.heap.size v83 _ _ (by rfl) HO83.out vhi (L.length - k) (mvE.cs (L.drop k)) (by rfl) (RHI.out.keep HK83.out (fun _ _ _ _ => id)) (mvE.cs_one_cell _) (by unfold maxLen; omega) (by omega) (by have := HK83.out.size; omega) ?_
                  intro v90 w90 ho90 hg90
                  obtain ⟨a90, l90, c90, rfl⟩ := own_slice ho90
                  have HK90 : Hid (Keep (fun _ => False) w2 w90) := Keep.grown HK83.out hg90 (fun x h1 h2 => by have := (HO83.out.lt x h1).1; omega)
                  have HO90 := Lib.hid ho90
                  clear ho90 hg90
                  refine hK.out _ _ (.inr (by (refine sB ?_ hbl2 hpl2 hbc3 hc1 hfz; (repeat (first | exact HK90.out | exact HK83.out | exact HK78.out | exact Keep.refl _ _ | refine Keep.drew ?_ | refine Keep.drewN ?_ _ | refine Keep.alloc ?_ _ | refine Keep.setNew ?_ (by omega) _)); done))) (fun hS20 => ?_)
                  replace hS20 := hS20.resolve_left (by decide)
                  try simp only [Act.put, List.setIfInBounds_toArray, List.set_cons_zero, List.set_cons_succ]
                  refine wpAnyL_ready (rs := [21]) (by kernel_rfl) (by simp) ?_
                  refine AllReadyL.cons rfl (fun K hK => ?_) ?_
                  · go_simp
                    refine hK.out _ _ (.inr (by (refine sB ?_ hbl2 hpl2 hbc3 hc1 hfz; (repeat (first | exact HK90.out | exact HK83.out | exact HK78.out | exact Keep.refl _ _ | refine Keep.drew ?_ | refine Keep.drewN ?_ _ | refine Keep.alloc ?_ _ | refine Keep.setNew ?_ (by omega) _)); done))) (fun hS21 => ?_)
                    replace hS21 := hS21.resolve_left (by decide)
                    try simp only [Act.put, List.setIfInBounds_toArray, List.set_cons_zero, List.set_cons_succ]
                    refine wpAnyL_take 22 (v := ?_) rfl (by kernel_rfl) (by kernel_rfl) (by kernel_rfl) (by kernel_rfl) (fun _ _ _ h => h) (Or.inl ⟨by rfl, ?_⟩) (by assumption) ?_
                    rotate_left
                    · (intro w hSw; (try dsimp only at hSw); go_split_ands; go_simp; try (with_reducible rfl))
                    simp only [Act.put, List.setIfInBounds_toArray, List.set_cons_zero, List.set_cons_succ]
                    refine wpAnyL_ready (rs := [23]) (by kernel_rfl) (by simp) ?_
                    refine AllReadyL.cons rfl (fun K hK => ?_) ?_
                    · go_simp
                      refine hK.out _ _ (.inl rfl) (fun _ => ?_)
                      try simp only [Act.put, List.setIfInBounds_toArray, List.set_cons_zero, List.set_cons_succ]
                      refine wpAnyL_done (by kernel_rfl) ?_ _
                      refine NoPanic.normal ?_
                      go_wp2
                      go_ret
                      exact ⟨rfl, begin_close hK0.out HRA.out hins.out (Nat.le_of_lt hlt) hl64 hpl (by have := hbl; omega) HK90.out HO90.out⟩
                    exact AllReadyL.nil
                  exact AllReadyL.nil
                exact AllReadyL.nil
              exact AllReadyL.nil
            exact AllReadyL.nil
          refine AllReadyL.cons rfl (fun K hK => ?_) ?_
          · go_simp
            refine hK.out _ _ (.inr (by (refine sB ?_ hbl2 hpl2 hbc3 hc1 hfz; (repeat (first | exact HK90.out | exact HK83.out | exact HK78.out | exact Keep.refl _ _ | refine Keep.drew ?_ | refine Keep.drewN ?_ _ | refine Keep.alloc ?_ _ | refine Keep.setNew ?_ (by omega) _)); done))) (fun hS17 => ?_)
            replace hS17 := hS17.resolve_left (by decide)
            try simp only [Act.put, List.setIfInBounds_toArray, List.set_cons_zero, List.set_cons_succ]
            refine wpAnyL_ready (rs := [8]) (by kernel_rfl) (by simp) ?_
            refine AllReadyL.cons rfl (fun K hK => ?_) ?_
            · refine step_app et36 (by rfl) (.tmp 71) (.tmp 77) (by rfl) w2.heap.size _ 0 [] (by rfl) (own_empty_at (by simp only [heap_alloc_at, heap_drewN, heap_drew, World.size_alloc, Nat.left_eq_add, Nat.add_eq_left, Nat.reduceEqDiff, reduceIte, Nat.succ_ne_self, Nat.add_left_cancel_iff]) (by simp)) vlo k (mvE.cs (L.take k)) (by rfl) (RLO.out.keep (S := fun _ => False) (by (repeat (first | exact Keep.refl _ _ | exact Keep.refl _ _ | refine Keep.drew ?_ | refine Keep.drewN ?_ _ | refine Keep.alloc ?_ _ | refine Keep.setNew ?_ (by omega) _)); done) (fun _ _ _ _ => id)) (mvE.cs_one_cell _) (by unfold maxLen; omega) (by omega) (by simp <;> omega) ?_
              intro v78 w78 ho78 hg78
              have HK78 : Hid (Keep (fun _ => False) w2 w78) := Keep.grown (by (repeat (first | exact Keep.refl _ _ | exact Keep.refl _ _ | refine Keep.drew ?_ | refine Keep.drewN ?_ _ | refine Keep.alloc ?_ _ | refine Keep.setNew ?_ (by omega) _)); done) hg78 (fun x h1 h2 => by simp [Value.ownBlock] at h1; omega)
              have HO78 := Lib.hid ho78
              have HG78 := Lib.hid hg78
              clear ho78 hg78
              refine hK.out _ _ (.inr (by (refine sB ?_ hbl2 hpl2 hbc3 hc1 hfz; (repeat (first | exact HK90.out | exact HK83.out | exact HK78.out | exact Keep.refl _ _ | refine Keep.drew ?_ | refine Keep.drewN ?_ _ | refine Keep.alloc ?_ _ | refine Keep.setNew ?_ (by omega) _)); done))) (fun hS18 => ?_)
              replace hS18 := hS18.resolve_left (by decide)
              try simp only [Act.put, List.setIfInBounds_toArray, List.set_cons_zero, List.set_cons_succ]
              refine wpAnyL_ready (rs := [13]) (by kernel_rfl) (by simp) ?_
              refine AllReadyL.cons rfl (fun K hK => ?_) ?_
              · refine step_app et36 (by rfl) (.tmp 78) (.tmp 82) (by rfl) w2.heap.size v78 _ _ (by rfl) (by first | exact HO78.out | exact HO78.out.alloc _ | fail) _ 1 [.int .i64 f, .int .i64 t, .int .i64 1, .int .i64 0] (by rfl) (by refine Reads.new (e := 31) (z := (0, 0)) ?_ rfl _; first | (refine (HG78.out.block _ ?_ ?_).trans ?_; all_goals (first | (simp only [heap_alloc_at, heap_drewN, heap_drew, World.size_alloc, Nat.left_eq_add, Nat.add_eq_left, Nat.reduceEqDiff, reduceIte, Nat.succ_ne_self, Nat.add_left_cancel_iff]; done) | (simp [Value.ownBlock, Act.eval]; done) | (simp only [World.size_alloc, World.size_drew, heap_drewN]; omega) | (show some _ ≠ some _; simp; done) | (show some _ ≠ some _; intro hh; injection hh; omega))) | (simp only [heap_alloc_at, heap_drewN, heap_drew, World.size_alloc, Nat.left_eq_add, Nat.add_eq_left, Nat.reduceEqDiff, reduceIte, Nat.succ_ne_self, Nat.add_left_cancel_iff]; done) | fail) (by simp [Value.oneCell']) (by unfold maxLen; omega) (by omega) (by have := HK78.out.size; simp <;> omega) ?_
                intro v83 w83 ho83 hg83
                have HK83 : Hid (Keep (fun _ => False) w2 w83) := Keep.grown (by (repeat (first | exact HK78.out | exact Keep.refl _ _ | refine Keep.drew ?_ | refine Keep.drewN ?_ _ | refine Keep.alloc ?_ _ | refine Keep.setNew ?_ (by omega) _)); done) hg83 (fun x h1 h2 => by have := (HO78.out.lt x h1).1; omega)
                have HO83 := Lib.hid ho83
                clear ho83 hg83
                refine hK.out _ _ (.inr (by (refine sB ?_ hbl2 hpl2 hbc3 hc1 hfz; (repeat (first | exact HK90.out | exact HK83.out | exact HK78.out | exact Keep.refl _ _ | refine Keep.drew ?_ | refine Keep.drewN ?_ _ | refine Keep.alloc ?_ _ | refine Keep.setNew ?_ (by omega) _)); done))) (fun hS19 => ?_)
                replace hS19 := hS19.resolve_left (by decide)
                try simp only [Act.put, List.setIfInBounds_toArray, List.set_cons_zero, List.set_cons_succ]
                refine wpAnyL_ready (rs := [20]) (by kernel_rfl) (by simp) ?_
                refine AllReadyL.cons rfl (fun K hK => ?_) ?_
                · refine step_app et36 (by rfl) (.tmp 83) (.tmp 89) (by rfl) w2.heap.size v83 _ _ (by rfl) HO83.out vhi (L.length - k) (mvE.cs (L.drop k)) (by rfl) (RHI.out.keep HK83.out (fun _ _ _ _ => id)) (mvE.cs_one_cell _) (by unfold maxLen; omega) (by omega) (by have := HK83.out.size; omega) ?_
                  intro v90 w90 ho90 hg90
                  obtain ⟨a90, l90, c90, rfl⟩ := own_slice ho90
                  have HK90 : Hid (Keep (fun _ => False) w2 w90) := Keep.grown HK83.out hg90 (fun x h1 h2 => by have := (HO83.out.lt x h1).1; omega)
                  have HO90 := Lib.hid ho90
                  clear ho90 hg90
                  refine hK.out _ _ (.inr (by (refine sB ?_ hbl2 hpl2 hbc3 hc1 hfz; (repeat (first | exact HK90.out | exact HK83.out | exact HK78.out | exact Keep.refl _ _ | refine Keep.drew ?_ | refine Keep.drewN ?_ _ | refine Keep.alloc ?_ _ | refine Keep.setNew ?_ (by omega) _)); done))) (fun hS20 => ?_)
                  replace hS20 := hS20.resolve_left (by decide)
                  try simp only [Act.put, List.setIfInBounds_toArray, List.set_cons_zero, List.set_cons_succ]
                  refine wpAnyL_ready (rs := [21]) (by kernel_rfl) (by simp) ?_
                  refine AllReadyL.cons rfl (fun K hK => ?_) ?_
                  · go_simp
                    refine hK.out _ _ (.inr (by (refine sB ?_ hbl2 hpl2 hbc3 hc1 hfz; (repeat (first | exact HK90.out | exact HK83.out | exact HK78.out | exact Keep.refl _ _ | refine Keep.drew ?_ | refine Keep.drewN ?_ _ | refine Keep.alloc ?_ _ | refine Keep.setNew ?_ (by omega) _)); done))) (fun hS21 => ?_)
                    replace hS21 := hS21.resolve_left (by decide)
                    try simp only [Act.put, List.setIfInBounds_toArray, List.set_cons_zero, List.set_cons_succ]
                    refine wpAnyL_take 22 (v := ?_) rfl (by kernel_rfl) (by kernel_rfl) (by kernel_rfl) (by kernel_rfl) (fun _ _ _ h => h) (Or.inl ⟨by rfl, ?_⟩) (by assumption) ?_
                    rotate_left
                    · (intro w hSw; (try dsimp only at hSw); go_split_ands; go_simp; try (with_reducible rfl))
                    simp only [Act.put, List.setIfInBounds_toArray, List.set_cons_zero, List.set_cons_succ]
                    refine wpAnyL_ready (rs := [23]) (by kernel_rfl) (by simp) ?_
                    refine AllReadyL.cons rfl (fun K hK => ?_) ?_
                    · go_simp
                      refine hK.out _ _ (.inl rfl) (fun _ => ?_)
                      try simp only [Act.put, List.setIfInBounds_toArray, List.set_cons_zero, List.set_cons_succ]
                      refine wpAnyL_done (by kernel_rfl) ?_ _
                      refine NoPanic.normal ?_
                      go_wp2
                      go_ret
                      exact ⟨rfl, begin_close hK0.out HRA.out hins.out (Nat.le_of_lt hlt) hl64 hpl (by have := hbl; omega) HK90.out HO90.out⟩
                    exact AllReadyL.nil
                  exact AllReadyL.nil
                exact AllReadyL.nil
              exact AllReadyL.nil
            exact AllReadyL.nil
          exact AllReadyL.nil
        refine AllReadyL.cons rfl (fun K hK => ?_) ?_
        · go_simp
          refine hK.out _ _ (.inr (by (refine sB ?_ hbl2 hpl2 hbc3 hc1 hfz; (repeat (first | exact HK90.out | exact HK83.out | exact HK78.out | exact Keep.refl _ _ | refine Keep.drew ?_ | refine Keep.drewN ?_ _ | refine Keep.alloc ?_ _ | refine Keep.setNew ?_ (by omega) _)); done))) (fun hS16 => ?_)
          replace hS16 := hS16.resolve_left (by decide)
          try simp only [Act.put, List.setIfInBounds_toArray, List.set_cons_zero, List.set_cons_succ]
          refine wpAnyL_ready (rs := [1]) (by kernel_rfl) (by simp) ?_
          refine AllReadyL.cons rfl (fun K hK => ?_) ?_
          · go_simp
            refine hK.out _ _ (.inr (by (refine sB ?_ hbl2 hpl2 hbc3 hc1 hfz; (repeat (first | exact HK90.out | exact HK83.out | exact HK78.out | exact Keep.refl _ _ | refine Keep.drew ?_ | refine Keep.drewN ?_ _ | refine Keep.alloc ?_ _ | refine Keep.setNew ?_ (by omega) _)); done))) (fun hS17 => ?_)
            replace hS17 := hS17.resolve_left (by decide)
            try simp only [Act.put, List.setIfInBounds_toArray, List.set_cons_zero, List.set_cons_succ]
            refine wpAnyL_ready (rs := [8]) (by kernel_rfl) (by simp) ?_
            refine AllReadyL.cons rfl (fun K hK => ?_) ?_
            · refine step_app et36 (by rfl) (.tmp 71) (.tmp 77) (by rfl) w2.heap.size _ 0 [] (by rfl) (own_empty_at (by simp only [heap_alloc_at, heap_drewN, heap_drew, World.size_alloc, Nat.left_eq_add, Nat.add_eq_left, Nat.reduceEqDiff, reduceIte, Nat.succ_ne_self, Nat.add_left_cancel_iff]) (by simp)) vlo k (mvE.cs (L.take k)) (by rfl) (RLO.out.keep (S := fun _ => False) (by (repeat (first | exact Keep.refl _ _ | exact Keep.refl _ _ | refine Keep.drew ?_ | refine Keep.drewN ?_ _ | refine Keep.alloc ?_ _ | refine Keep.setNew ?_ (by omega) _)); done) (fun _ _ _ _ => id)) (mvE.cs_one_cell _) (by unfold maxLen; omega) (by omega) (by simp <;> omega) ?_
              intro v78 w78 ho78 hg78
              have HK78 : Hid (Keep (fun _ => False) w2 w78) := Keep.grown (by (repeat (first | exact Keep.refl _ _ | exact Keep.refl _ _ | refine Keep.drew ?_ | refine Keep.drewN ?_ _ | refine Keep.alloc ?_ _ | refine Keep.setNew ?_ (by omega) _)); done) hg78 (fun x h1 h2 => by simp [Value.ownBlock] at h1; omega)
              have HO78 := Lib.hid ho78
              have HG78 := Lib.hid hg78
              clear ho78 hg78
              refine hK.out _ _ (.inr (by (refine sB ?_ hbl2 hpl2 hbc3 hc1 hfz; (repeat (first | exact HK90.out | exact HK83.out | exact HK78.out | exact Keep.refl _ _ | refine Keep.drew ?_ | refine Keep.drewN ?_ _ | refine Keep.alloc ?_ _ | refine Keep.setNew ?_ (by omega) _)); done))) (fun hS18 => ?_)
              replace hS18 := hS18.resolve_left (by decide)
              try simp only [Act.put, List.setIfInBounds_toArray, List.set_cons_zero, List.set_cons_succ]
              refine wpAnyL_ready (rs := [13]) (by kernel_rfl) (by simp) ?_
              refine AllReadyL.cons rfl (fun K hK => ?_) ?_
              · refine step_app et36 (by rfl) (.tmp 78) (.tmp 82) (by rfl) w2.heap.size v78 _ _ (by rfl) (by first | exact HO78.out | exact HO78.out.alloc _ | fail) _ 1 [.int .i64 f, .int .i64 t, .int .i64 1, .int .i64 0] (by rfl) (by refine Reads.new (e := 31) (z := (0, 0)) ?_ rfl _; first | (refine (HG78.out.block _ ?_ ?_).trans ?_; all_goals (first | (simp only [heap_alloc_at, heap_drewN, heap_drew, World.size_alloc, Nat.left_eq_add, Nat.add_eq_left, Nat.reduceEqDiff, reduceIte, Nat.succ_ne_self, Nat.add_left_cancel_iff]; done) | (simp [Value.ownBlock, Act.eval]; done) | (simp only [World.size_alloc, World.size_drew, heap_drewN]; omega) | (show some _ ≠ some _; simp; done) | (show some _ ≠ some _; intro hh; injection hh; omega))) | (simp only [heap_alloc_at, heap_drewN, heap_drew, World.size_alloc, Nat.left_eq_add, Nat.add_eq_left, Nat.reduceEqDiff, reduceIte, Nat.succ_ne_self, Nat.add_left_cancel_iff]; done) | fail) (by simp [Value.oneCell']) (by unfold maxLen; omega) (by omega) (by have := HK78.out.size; simp <;> omega) ?_
                intro v83 w83 ho83 hg83
                have HK83 : Hid (Keep (fun _ => False) w2 w83) := Keep.grown (by (repeat (first | exact HK78.out | exact Keep.refl _ _ | refine Keep.drew ?_ | refine Keep.drewN ?_ _ | refine Keep.alloc ?_ _ | refine Keep.setNew ?_ (by omega) _)); done) hg83 (fun x h1 h2 => by have := (HO78.out.lt x h1).1; omega)
                have HO83 := Lib.hid ho83
                clear ho83 hg83
                refine hK.out _ _ (.inr (by (refine sB ?_ hbl2 hpl2 hbc3 hc1 hfz; (repeat (first | exact HK90.out | exact HK83.out | exact HK78.out | exact Keep.refl _ _ | refine Keep.drew ?_ | refine Keep.drewN ?_ _ | refine Keep.alloc ?_ _ | refine Keep.setNew ?_ (by omega) _)); done))) (fun hS19 => ?_)
                replace hS19 := hS19.resolve_left (by decide)
                try simp only [Act.put, List.setIfInBounds_toArray, List.set_cons_zero, List.set_cons_succ]
                refine wpAnyL_ready (rs := [20]) (by kernel_rfl) (by simp) ?_
                refine AllReadyL.cons rfl (fun K hK => ?_) ?_
                · refine step_app et36 (by rfl) (.tmp 83) (.tmp 89) (by rfl) w2.heap.size v83 _ _ (by rfl) HO83.out vhi (L.length - k) (mvE.cs (L.drop k)) (by rfl) (RHI.out.keep HK83.out (fun _ _ _ _ => id)) (mvE.cs_one_cell _) (by unfold maxLen; omega) (by omega) (by have := HK83.out.size; omega) ?_
                  intro v90 w90 ho90 hg90
                  obtain ⟨a90, l90, c90, rfl⟩ := own_slice ho90
                  have HK90 : Hid (Keep (fun _ => False) w2 w90) := Keep.grown HK83.out hg90 (fun x h1 h2 => by have := (HO83.out.lt x h1).1; omega)
                  have HO90 := Lib.hid ho90
                  clear ho90 hg90
                  refine hK.out _ _ (.inr (by (refine sB ?_ hbl2 hpl2 hbc3 hc1 hfz; (repeat (first | exact HK90.out | exact HK83.out | exact HK78.out | exact Keep.refl _ _ | refine Keep.drew ?_ | refine Keep.drewN ?_ _ | refine Keep.alloc ?_ _ | refine Keep.setNew ?_ (by omega) _)); done))) (fun hS20 => ?_)
                  replace hS20 := hS20.resolve_left (by decide)
                  try simp only [Act.put, List.setIfInBounds_toArray, List.set_cons_zero, List.set_cons_succ]
                  refine wpAnyL_ready (rs := [21]) (by kernel_rfl) (by simp) ?_
                  refine AllReadyL.cons rfl (fun K hK => ?_) ?_
                  · go_simp
                    refine hK.out _ _ (.inr (by (refine sB ?_ hbl2 hpl2 hbc3 hc1 hfz; (repeat (first | exact HK90.out | exact HK83.out | exact HK78.out | exact Keep.refl _ _ | refine Keep.drew ?_ | refine Keep.drewN ?_ _ | refine Keep.alloc ?_ _ | refine Keep.setNew ?_ (by omega) _)); done))) (fun hS21 => ?_)
                    replace hS21 := hS21.resolve_left (by decide)
                    try simp only [Act.put, List.setIfInBounds_toArray, List.set_cons_zero, List.set_cons_succ]
                    refine wpAnyL_take 22 (v := ?_) rfl (by kernel_rfl) (by kernel_rfl) (by kernel_rfl) (by kernel_rfl) (fun _ _ _ h => h) (Or.inl ⟨by rfl, ?_⟩) (by assumption) ?_
                    rotate_left
                    · (intro w hSw; (try dsimp only at hSw); go_split_ands; go_simp; try (with_reducible rfl))
                    simp only [Act.put, List.setIfInBounds_toArray, List.set_cons_zero, List.set_cons_succ]
                    refine wpAnyL_ready (rs := [23]) (by kernel_rfl) (by simp) ?_
                    refine AllReadyL.cons rfl (fun K hK => ?_) ?_
                    · go_simp
                      refine hK.out _ _ (.inl rfl) (fun _ => ?_)
                      try simp only [Act.put, List.setIfInBounds_toArray, List.set_cons_zero, List.set_cons_succ]
                      refine wpAnyL_done (by kernel_rfl) ?_ _
                      refine NoPanic.normal ?_
                      go_wp2
                      go_ret
                      exact ⟨rfl, begin_close hK0.out HRA.out hins.out (Nat.le_of_lt hlt) hl64 hpl (by have := hbl; omega) HK90.out HO90.out⟩
                    exact AllReadyL.nil
                  exact AllReadyL.nil
                exact AllReadyL.nil
              exact AllReadyL.nil
            exact AllReadyL.nil
          exact AllReadyL.nil
        exact AllReadyL.nil

    · have hins : Hid (insK L f = k) := insK_eq hk HRL.out (fun h => absurd h hlt)
      have hk0 : (0 : Int) ≤ k := by omega
      have hbl2 := hbl
      have hpl2 : p < w2.heap.size := block_lt HRA.out.hp
      have hfz : w2.frozen? ⟨p, 1, none⟩ = false := frozen_block HRA.out.hp
      obtain ⟨vlo, hlo, hrlo⟩ := sl_lo et36 HRA.out.hv hk
      obtain ⟨vhi, hhi, hrhi⟩ := sl_hi et36 HRA.out.hv (i := k) hk ↑k rfl
      have RLO := Lib.hid hrlo
      have RHI := Lib.hid hrhi
      clear hrlo hrhi
      go_wp2
      refine wp_region_noPanic ?_
      refine wp_region_L (fun w' => w'.cell? ⟨w.heap.size, 0, none⟩ = some (.pointer (some ⟨p, 0, none⟩)) ∧ w'.cell? ⟨p, 1, none⟩ = some (.slice a L.length c) ∧ w'.frozen? ⟨p, 1, none⟩ = false) 23 (by kernel_rfl) (by (refine sB ?_ hbl2 hpl2 hbc3 hc1 hfz; (repeat (first | exact HK90.out | exact HK83.out | exact HK78.out | exact Keep.refl _ _ | refine Keep.drew ?_ | refine Keep.drewN ?_ _ | refine Keep.alloc ?_ _ | refine Keep.setNew ?_ (by omega) _)); done)) (fun hS0 => ?_)
      refine wpAnyL_take 0 (v := ?_) rfl (by kernel_rfl) (by kernel_rfl) (by kernel_rfl) (by kernel_rfl) (fun _ _ _ h => h) (Or.inl ⟨by rfl, ?_⟩) (by assumption) ?_
      rotate_left
      · (intro w hSw; (try dsimp only at hSw); go_split_ands; go_simp; try (with_reducible rfl))
      simp only [Act.put, List.setIfInBounds_toArray, List.set_cons_zero, List.set_cons_succ]
      refine wpAnyL_take 2 (v := ?_) rfl (by kernel_rfl) (by kernel_rfl) (by kernel_rfl) (by kernel_rfl) (fun _ _ _ h => h) (Or.inl ⟨by rfl, ?_⟩) (by assumption) ?_
      rotate_left
      · (intro w hSw; (try dsimp only at hSw); go_split_ands; go_simp; try (with_reducible rfl))
      simp only [Act.put, List.setIfInBounds_toArray, List.set_cons_zero, List.set_cons_succ]
      refine wpAnyL_take 3 (v := ?_) rfl (by kernel_rfl) (by kernel_rfl) (by kernel_rfl) (by kernel_rfl) (fun _ _ _ h => h) (Or.inl ⟨by rfl, ?_⟩) (by assumption) ?_
      rotate_left
      · (intro w hSw; (try dsimp only at hSw); go_split_ands; go_simp; try (with_reducible rfl))
      simp only [Act.put, List.setIfInBounds_toArray, List.set_cons_zero, List.set_cons_succ]
      refine wpAnyL_take 4 (v := ?_) rfl (by kernel_rfl) (by kernel_rfl) (by kernel_rfl) (by kernel_rfl) (fun _ _ _ h => h) (Or.inl ⟨by rfl, ?_⟩) (by assumption) ?_
      rotate_left
      · (intro w hSw; (try dsimp only at hSw); go_split_ands; go_simp; try (with_reducible rfl))
      simp only [Act.put, List.setIfInBounds_toArray, List.set_cons_zero, List.set_cons_succ]
      refine wpAnyL_take 5 (v := ?_) rfl (by kernel_rfl) (by kernel_rfl) (by kernel_rfl) (by kernel_rfl) (fun _ _ _ h => h) (Or.inl ⟨by rfl, ?_⟩) (by assumption) ?_
      rotate_left
      · (intro w hSw; (try dsimp only at hSw); go_split_ands; go_simp; try (with_reducible rfl))
      simp only [Act.put, List.setIfInBounds_toArray, List.set_cons_zero, List.set_cons_succ]
      refine wpAnyL_take 6 (v := ?_) rfl (by kernel_rfl) (by kernel_rfl) (by kernel_rfl) (by kernel_rfl) (fun _ _ _ h => h) (Or.inl ⟨by rfl, ?_⟩) (by assumption) ?_
      rotate_left
      · (intro w hSw; (try dsimp only at hSw); go_split_ands; go_simp; try (with_reducible rfl))
      simp only [Act.put, List.setIfInBounds_toArray, List.set_cons_zero, List.set_cons_succ]
      refine wpAnyL_take 7 (v := ?_) rfl (by kernel_rfl) (by kernel_rfl) (by kernel_rfl) (by kernel_rfl) (fun _ _ _ h => h) (Or.inl ⟨by rfl, ?_⟩) (by assumption) ?_
      rotate_left
      · (intro w hSw; (try dsimp only at hSw); go_split_ands; go_simp; try (with_reducible rfl))
      simp only [Act.put, List.setIfInBounds_toArray, List.set_cons_zero, List.set_cons_succ]
      refine wpAnyL_take 9 (v := ?_) rfl (by kernel_rfl) (by kernel_rfl) (by kernel_rfl) (by kernel_rfl) (fun _ _ _ h => h) (Or.inl ⟨by rfl, ?_⟩) (by assumption) ?_
      rotate_left
      · (intro w hSw; (try dsimp only at hSw); go_split_ands; go_simp; try (with_reducible rfl))
      simp only [Act.put, List.setIfInBounds_toArray, List.set_cons_zero, List.set_cons_succ]
      refine wpAnyL_take 10 (v := ?_) rfl (by kernel_rfl) (by kernel_rfl) (by kernel_rfl) (by kernel_rfl) (fun _ _ _ h => h) (Or.inl ⟨by rfl, ?_⟩) (by assumption) ?_
      rotate_left
      · (intro w hSw; (try dsimp only at hSw); go_split_ands; go_simp; try (with_reducible rfl))
      simp only [Act.put, List.setIfInBounds_toArray, List.set_cons_zero, List.set_cons_succ]
      refine wpAnyL_take 11 (v := ?_) rfl (by kernel_rfl) (by kernel_rfl) (by kernel_rfl) (by kernel_rfl) (fun _ _ _ h => h) (Or.inl ⟨by rfl, ?_⟩) (by assumption) ?_
      rotate_left
      · (intro w hSw; (try dsimp only at hSw); go_split_ands; go_simp; try (with_reducible rfl))
      simp only [Act.put, List.setIfInBounds_toArray, List.set_cons_zero, List.set_cons_succ]
      refine wpAnyL_take 14 (v := ?_) rfl (by kernel_rfl) (by kernel_rfl) (by kernel_rfl) (by kernel_rfl) (fun _ _ _ h => h) (Or.inl ⟨by rfl, ?_⟩) (by assumption) ?_
      rotate_left
      · (intro w hSw; (try dsimp only at hSw); go_split_ands; go_simp; try (with_reducible rfl))
      simp only [Act.put, List.setIfInBounds_toArray, List.set_cons_zero, List.set_cons_succ]
      refine wpAnyL_take 15 (v := ?_) rfl (by kernel_rfl) (by kernel_rfl) (by kernel_rfl) (by kernel_rfl) (fun _ _ _ h => h) (Or.inl ⟨by rfl, ?_⟩) (by assumption) ?_
      rotate_left
      · (intro w hSw; (try dsimp only at hSw); go_split_ands; go_simp; try (with_reducible rfl))
      simp only [Act.put, List.setIfInBounds_toArray, List.set_cons_zero, List.set_cons_succ]
      refine wpAnyL_take 16 (v := ?_) rfl (by kernel_rfl) (by kernel_rfl) (by kernel_rfl) (by kernel_rfl) (fun _ _ _ h => h) (Or.inl ⟨by rfl, ?_⟩) (by assumption) ?_
      rotate_left
      · (intro w hSw; (try dsimp only at hSw); go_split_ands; go_simp; try (with_reducible rfl))
      simp only [Act.put, List.setIfInBounds_toArray, List.set_cons_zero, List.set_cons_succ]
      refine wpAnyL_take 17 (v := ?_) rfl (by kernel_rfl) (by kernel_rfl) (by kernel_rfl) (by kernel_rfl) (fun _ _ _ h => h) (Or.inl ⟨by rfl, ?_⟩) (by assumption) ?_
      rotate_left
      · (intro w hSw; (try dsimp only at hSw); go_split_ands; go_simp; try (with_reducible rfl))
      simp only [Act.put, List.setIfInBounds_toArray, List.set_cons_zero, List.set_cons_succ]
      refine wpAnyL_take 18 (v := ?_) rfl (by kernel_rfl) (by kernel_rfl) (by kernel_rfl) (by kernel_rfl) (fun _ _ _ h => h) (Or.inl ⟨by rfl, ?_⟩) (by assumption) ?_
      rotate_left
      · (intro w hSw; (try dsimp only at hSw); go_split_ands; go_simp; try (with_reducible rfl))
      simp only [Act.put, List.setIfInBounds_toArray, List.set_cons_zero, List.set_cons_succ]
      refine wpAnyL_take 19 (v := ?_) rfl (by kernel_rfl) (by kernel_rfl) (by kernel_rfl) (by kernel_rfl) (fun _ _ _ h => h) (Or.inl ⟨by rfl, ?_⟩) (by assumption) ?_
      rotate_left
      · (intro w hSw; (try dsimp only at hSw); go_split_ands; go_simp; try (with_reducible rfl))
      simp only [Act.put, List.setIfInBounds_toArray, List.set_cons_zero, List.set_cons_succ]
      refine wpAnyL_ready (rs := [1, 12]) (by kernel_rfl) (by simp) ?_
      refine AllReadyL.cons rfl (fun K hK => ?_) ?_
      · go_simp
        refine hK.out _ _ (.inr (by (refine sB ?_ hbl2 hpl2 hbc3 hc1 hfz; (repeat (first | exact HK90.out | exact HK83.out | exact HK78.out | exact Keep.refl _ _ | refine Keep.drew ?_ | refine Keep.drewN ?_ _ | refine Keep.alloc ?_ _ | refine Keep.setNew ?_ (by omega) _)); done))) (fun hS16 => ?_)
        replace hS16 := hS16.resolve_left (by decide)
        try simp only [Act.put, List.setIfInBounds_toArray, List.set_cons_zero, List.set_cons_succ]
        refine wpAnyL_ready (rs := [8, 12]) (by kernel_rfl) (by simp) ?_
        refine AllReadyL.cons rfl (fun K hK => ?_) ?_
        · refine step_app et36 (by rfl) (.tmp 71) (.tmp 77) (by rfl) w2.heap.size _ 0 [] (by rfl) (own_empty_at (by simp only [heap_alloc_at, heap_drewN, heap_drew, World.size_alloc, Nat.left_eq_add, Nat.add_eq_left, Nat.reduceEqDiff, reduceIte, Nat.succ_ne_self, Nat.add_left_cancel_iff]) (by simp)) vlo k (mvE.cs (L.take k)) (by rfl) (RLO.out.keep (S := fun _ => False) (by (repeat (first | exact Keep.refl _ _ | exact Keep.refl _ _ | refine Keep.drew ?_ | refine Keep.drewN ?_ _ | refine Keep.alloc ?_ _ | refine Keep.setNew ?_ (by omega) _)); done) (fun _ _ _ _ => id)) (mvE.cs_one_cell _) (by unfold maxLen; omega) (by omega) (by simp <;> omega) ?_
          intro v78 w78 ho78 hg78
          have HK78 : Hid (Keep (fun _ => False) w2 w78) := Keep.grown (by (repeat (first | exact Keep.refl _ _ | exact Keep.refl _ _ | refine Keep.drew ?_ | refine Keep.drewN ?_ _ | refine Keep.alloc ?_ _ | refine Keep.setNew ?_ (by omega) _)); done) hg78 (fun x h1 h2 => by simp [Value.ownBlock] at h1; omega)
          have HO78 := Lib.hid ho78
          have HG78 := Lib.hid hg78
          clear ho78 hg78
          refine hK.out _ _ (.inr (by (refine sB ?_ hbl2 hpl2 hbc3 hc1 hfz; (repeat (first | exact HK90.out | exact HK83.out | exact HK78.out | exact Keep.refl _ _ | refine Keep.drew ?_ | refine Keep.drewN ?_ _ | refine Keep.alloc ?_ _ | refine Keep.setNew ?_ (by omega) _)); done))) (fun hS17 => ?_)
          replace hS17 := hS17.resolve_left (by decide)
          try simp only [Act.put, List.setIfInBounds_toArray, List.set_cons_zero, List.set_cons_succ]
          refine wpAnyL_ready (rs := [12]) (by kernel_rfl) (by simp) ?_
          refine AllReadyL.cons rfl (fun K hK => ?_) ?_
          · go_simp
            refine hK.out _ _ (.inr (by (refine sB ?_ hbl2 hpl2 hbc3 hc1 hfz; (repeat (first | exact HK90.out | exact HK83.out | exact HK78.out | exact Keep.refl _ _ | refine Keep.drew ?_ | refine Keep.drewN ?_ _ | refine Keep.alloc ?_ _ | refine Keep.setNew ?_ (by omega) _)); done))) (fun hS18 => ?_)
            replace hS18 := hS18.resolve_left (by decide)
            try simp only [Act.put, List.setIfInBounds_toArray, List.set_cons_zero, List.set_cons_succ]
            refine wpAnyL_ready (rs := [13]) (by kernel_rfl) (by simp) ?_
            refine AllReadyL.cons rfl (fun K hK => ?_) ?_
            · refine step_app et36 (by rfl) (.tmp 78) (.tmp 82) (by rfl) w2.heap.size v78 _ _ (by rfl) (by first | exact HO78.out | exact HO78.out.alloc _ | fail) _ 1 [.int .i64 f, .int .i64 t, .int .i64 1, .int .i64 0] (by rfl) (by refine Reads.new (e := 31) (z := (0, 0)) ?_ rfl _; first | (refine (HG78.out.block _ ?_ ?_).trans ?_; all_goals (first | (simp only [heap_alloc_at, heap_drewN, heap_drew, World.size_alloc, Nat.left_eq_add, Nat.add_eq_left, Nat.reduceEqDiff, reduceIte, Nat.succ_ne_self, Nat.add_left_cancel_iff]; done) | (simp [Value.ownBlock, Act.eval]; done) | (simp only [World.size_alloc, World.size_drew, heap_drewN]; omega) | (show some _ ≠ some _; simp; done) | (show some _ ≠ some _; intro hh; injection hh; omega))) | (simp only [heap_alloc_at, heap_drewN, heap_drew, World.size_alloc, Nat.left_eq_add, Nat.add_eq_left, Nat.reduceEqDiff, reduceIte, Nat.succ_ne_self, Nat.add_left_cancel_iff]; done) | fail) (by simp [Value.oneCell']) (by unfold maxLen; omega) (by omega) (by have := HK78.out.size; simp <;> omega) ?_
              intro v83 w83 ho83 hg83
              have HK83 : Hid (Keep (fun _ => False) w2 w83) := Keep.grown (by (repeat (first | exact HK78.out | exact Keep.refl _ _ | refine Keep.drew ?_ | refine Keep.drewN ?_ _ | refine Keep.alloc ?_ _ | refine Keep.setNew ?_ (by omega) _)); done) hg83 (fun x h1 h2 => by have := (HO78.out.lt x h1).1; omega)
              have HO83 := Lib.hid ho83
              clear ho83 hg83
              refine hK.out _ _ (.inr (by (refine sB ?_ hbl2 hpl2 hbc3 hc1 hfz; (repeat (first | exact HK90.out | exact HK83.out | exact HK78.out | exact Keep.refl _ _ | refine Keep.drew ?_ | refine Keep.drewN ?_ _ | refine Keep.alloc ?_ _ | refine Keep.setNew ?_ (by omega) _)); done))) (fun hS19 => ?_)
              replace hS19 := hS19.resolve_left (by decide)
              try simp only [Act.put, List.setIfInBounds_toArray, List.set_cons_zero, List.set_cons_succ]
              refine wpAnyL_ready (rs := [20]) (by kernel_rfl) (by simp) ?_
              refine AllReadyL.cons rfl (fun K hK => ?_) ?_
              · refine step_app et36 (by rfl) (.tmp 83) (.tmp 89) (by rfl) w2.heap.size v83 _ _ (by rfl) HO83.out vhi (L.length - k) (mvE.cs (L.drop k)) (by rfl) (RHI.out.keep HK83.out (fun _ _ _ _ => id)) (mvE.cs_one_cell _) (by unfold maxLen; omega) (by omega) (by have := HK83.out.size; omega) ?_
                intro v90 w90 ho90 hg90
                obtain ⟨a90, l90, c90, rfl⟩ := own_slice ho90
                have HK90 : Hid (Keep (fun _ => False) w2 w90) := Keep.grown HK83.out hg90 (fun x h1 h2 => by have := (HO83.out.lt x h1).1; omega)
                have HO90 := Lib.hid ho90
                clear ho90 hg90
                refine hK.out _ _ (.inr (by (refine sB ?_ hbl2 hpl2 hbc3 hc1 hfz; (repeat (first | exact HK90.out | exact HK83.out | exact HK78.out | exact Keep.refl _ _ | refine Keep.drew ?_ | refine Keep.drewN ?_ _ | refine Keep.alloc ?_ _ | refine Keep.setNew ?_ (by omega) _)); done))) (fun hS20 => ?_)
                replace hS20 := hS20.resolve_left (by decide)
                try simp only [Act.put, List.setIfInBounds_toArray, List.set_cons_zero, List.set_cons_succ]
                refine wpAnyL_ready (rs := [21]) (by kernel_rfl) (by simp) ?_
                refine AllReadyL.cons rfl (fun K hK => ?_) ?_
                · go_simp
                  refine hK.out _ _ (.inr (by (refine sB ?_ hbl2 hpl2 hbc3 hc1 hfz; (repeat (first | exact HK90.out | exact HK83.out | exact HK78.out | exact Keep.refl _ _ | refine Keep.drew ?_ | refine Keep.drewN ?_ _ | refine Keep.alloc ?_ _ | refine Keep.setNew ?_ (by omega) _)); done))) (fun hS21 => ?_)
                  replace hS21 := hS21.resolve_left (by decide)
                  try simp only [Act.put, List.setIfInBounds_toArray, List.set_cons_zero, List.set_cons_succ]
                  refine wpAnyL_take 22 (v := ?_) rfl (by kernel_rfl) (by kernel_rfl) (by kernel_rfl) (by kernel_rfl) (fun _ _ _ h => h) (Or.inl ⟨by rfl, ?_⟩) (by assumption) ?_
                  rotate_left
                  · (intro w hSw; (try dsimp only at hSw); go_split_ands; go_simp; try (with_reducible rfl))
                  simp only [Act.put, List.setIfInBounds_toArray, List.set_cons_zero, List.set_cons_succ]
                  refine wpAnyL_ready (rs := [23]) (by kernel_rfl) (by simp) ?_
                  refine AllReadyL.cons rfl (fun K hK => ?_) ?_
                  · go_simp
                    refine hK.out _ _ (.inl rfl) (fun _ => ?_)
                    try simp only [Act.put, List.setIfInBounds_toArray, List.set_cons_zero, List.set_cons_succ]
                    refine wpAnyL_done (by kernel_rfl) ?_ _
                    refine NoPanic.normal ?_
                    go_wp2
                    go_ret
                    exact ⟨rfl, begin_close hK0.out HRA.out hins.out hk hl64 hpl (by have := hbl; omega) HK90.out HO90.out⟩
                  exact AllReadyL.nil
                exact AllReadyL.nil
              exact AllReadyL.nil
            exact AllReadyL.nil
          exact AllReadyL.nil
        refine AllReadyL.cons rfl (fun K hK => ?_) ?_
        · go_simp
          refine hK.out _ _ (.inr (by (refine sB ?_ hbl2 hpl2 hbc3 hc1 hfz; (repeat (first | exact HK90.out | exact HK83.out | exact HK78.out | exact Keep.refl _ _ | refine Keep.drew ?_ | refine Keep.drewN ?_ _ | refine Keep.alloc ?_ _ | refine Keep.setNew ?_ (by omega) _)); done))) (fun hS17 => ?_)
          replace hS17 := hS17.resolve_left (by decide)
          try simp only [Act.put, List.setIfInBounds_toArray, List.set_cons_zero, List.set_cons_succ]
          refine wpAnyL_ready (rs := [8]) (by kernel_rfl) (by simp) ?_
          refine AllReadyL.cons rfl (fun K hK => ?_) ?_
          · refine step_app et36 (by rfl) (.tmp 71) (.tmp 77) (by rfl) w2.heap.size _ 0 [] (by rfl) (own_empty_at (by simp only [heap_alloc_at, heap_drewN, heap_drew, World.size_alloc, Nat.left_eq_add, Nat.add_eq_left, Nat.reduceEqDiff, reduceIte, Nat.succ_ne_self, Nat.add_left_cancel_iff]) (by simp)) vlo k (mvE.cs (L.take k)) (by rfl) (RLO.out.keep (S := fun _ => False) (by (repeat (first | exact Keep.refl _ _ | exact Keep.refl _ _ | refine Keep.drew ?_ | refine Keep.drewN ?_ _ | refine Keep.alloc ?_ _ | refine Keep.setNew ?_ (by omega) _)); done) (fun _ _ _ _ => id)) (mvE.cs_one_cell _) (by unfold maxLen; omega) (by omega) (by simp <;> omega) ?_
            intro v78 w78 ho78 hg78
            have HK78 : Hid (Keep (fun _ => False) w2 w78) := Keep.grown (by (repeat (first | exact Keep.refl _ _ | exact Keep.refl _ _ | refine Keep.drew ?_ | refine Keep.drewN ?_ _ | refine Keep.alloc ?_ _ | refine Keep.setNew ?_ (by omega) _)); done) hg78 (fun x h1 h2 => by simp [Value.ownBlock] at h1; omega)
            have HO78 := Lib.hid ho78
            have HG78 := Lib.hid hg78
            clear ho78 hg78
            refine hK.out _ _ (.inr (by (refine sB ?_ hbl2 hpl2 hbc3 hc1 hfz; (repeat (first | exact HK90.out | exact HK83.out | exact HK78.out | exact Keep.refl _ _ | refine Keep.drew ?_ | refine Keep.drewN ?_ _ | refine Keep.alloc ?_ _ | refine Keep.setNew ?_ (by omega) _)); done))) (fun hS18 => ?_)
            replace hS18 := hS18.resolve_left (by decide)
            try simp only [Act.put, List.setIfInBounds_toArray, List.set_cons_zero, List.set_cons_succ]
            refine wpAnyL_ready (rs := [13]) (by kernel_rfl) (by simp) ?_
            refine AllReadyL.cons rfl (fun K hK => ?_) ?_
            · refine step_app et36 (by rfl) (.tmp 78) (.tmp 82) (by rfl) w2.heap.size v78 _ _ (by rfl) (by first | exact HO78.out | exact HO78.out.alloc _ | fail) _ 1 [.int .i64 f, .int .i64 t, .int .i64 1, .int .i64 0] (by rfl) (by refine Reads.new (e := 31) (z := (0, 0)) ?_ rfl _; first | (refine (HG78.out.block _ ?_ ?_).trans ?_; all_goals (first | (simp only [heap_alloc_at, heap_drewN, heap_drew, World.size_alloc, Nat.left_eq_add, Nat.add_eq_left, Nat.reduceEqDiff, reduceIte, Nat.succ_ne_self, Nat.add_left_cancel_iff]; done) | (simp [Value.ownBlock, Act.eval]; done) | (simp only [World.size_alloc, World.size_drew, heap_drewN]; omega) | (show some _ ≠ some _; simp; done) | (show some _ ≠ some _; intro hh; injection hh; omega))) | (simp only [heap_alloc_at, heap_drewN, heap_drew, World.size_alloc, Nat.left_eq_add, Nat.add_eq_left, Nat.reduceEqDiff, reduceIte, Nat.succ_ne_self, Nat.add_left_cancel_iff]; done) | fail) (by simp [Value.oneCell']) (by unfold maxLen; omega) (by omega) (by have := HK78.out.size; simp <;> omega) ?_
              intro v83 w83 ho83 hg83
              have HK83 : Hid (Keep (fun _ => False) w2 w83) := Keep.grown (by (repeat (first | exact HK78.out | exact Keep.refl _ _ | refine Keep.drew ?_ | refine Keep.drewN ?_ _ | refine Keep.alloc ?_ _ | refine Keep.setNew ?_ (by omega) _)); done) hg83 (fun x h1 h2 => by have := (HO78.out.lt x h1).1; omega)
              have HO83 := Lib.hid ho83
              clear ho83 hg83
              refine hK.out _ _ (.inr (by (refine sB ?_ hbl2 hpl2 hbc3 hc1 hfz; (repeat (first | exact HK90.out | exact HK83.out | exact HK78.out | exact Keep.refl _ _ | refine Keep.drew ?_ | refine Keep.drewN ?_ _ | refine Keep.alloc ?_ _ | refine Keep.setNew ?_ (by omega) _)); done))) (fun hS19 => ?_)
              replace hS19 := hS19.resolve_left (by decide)
              try simp only [Act.put, List.setIfInBounds_toArray, List.set_cons_zero, List.set_cons_succ]
              refine wpAnyL_ready (rs := [20]) (by kernel_rfl) (by simp) ?_
              refine AllReadyL.cons rfl (fun K hK => ?_) ?_
              · refine step_app et36 (by rfl) (.tmp 83) (.tmp 89) (by rfl) w2.heap.size v83 _ _ (by rfl) HO83.out vhi (L.length - k) (mvE.cs (L.drop k)) (by rfl) (RHI.out.keep HK83.out (fun _ _ _ _ => id)) (mvE.cs_one_cell _) (by unfold maxLen; omega) (by omega) (by have := HK83.out.size; omega) ?_
                intro v90 w90 ho90 hg90
                obtain ⟨a90, l90, c90, rfl⟩ := own_slice ho90
                have HK90 : Hid (Keep (fun _ => False) w2 w90) := Keep.grown HK83.out hg90 (fun x h1 h2 => by have := (HO83.out.lt x h1).1; omega)
                have HO90 := Lib.hid ho90
                clear ho90 hg90
                refine hK.out _ _ (.inr (by (refine sB ?_ hbl2 hpl2 hbc3 hc1 hfz; (repeat (first | exact HK90.out | exact HK83.out | exact HK78.out | exact Keep.refl _ _ | refine Keep.drew ?_ | refine Keep.drewN ?_ _ | refine Keep.alloc ?_ _ | refine Keep.setNew ?_ (by omega) _)); done))) (fun hS20 => ?_)
                replace hS20 := hS20.resolve_left (by decide)
                try simp only [Act.put, List.setIfInBounds_toArray, List.set_cons_zero, List.set_cons_succ]
                refine wpAnyL_ready (rs := [21]) (by kernel_rfl) (by simp) ?_
                refine AllReadyL.cons rfl (fun K hK => ?_) ?_
                · go_simp
                  refine hK.out _ _ (.inr (by (refine sB ?_ hbl2 hpl2 hbc3 hc1 hfz; (repeat (first | exact HK90.out | exact HK83.out | exact HK78.out | exact Keep.refl _ _ | refine Keep.drew ?_ | refine Keep.drewN ?_ _ | refine Keep.alloc ?_ _ | refine Keep.setNew ?_ (by omega) _)); done))) (fun hS21 => ?_)
                  replace hS21 := hS21.resolve_left (by decide)
                  try simp only [Act.put, List.setIfInBounds_toArray, List.set_cons_zero, List.set_cons_succ]
                  refine wpAnyL_take 22 (v := ?_) rfl (by kernel_rfl) (by kernel_rfl) (by kernel_rfl) (by kernel_rfl) (fun _ _ _ h => h) (Or.inl ⟨by rfl, ?_⟩) (by assumption) ?_
                  rotate_left
                  · (intro w hSw; (try dsimp only at hSw); go_split_ands; go_simp; try (with_reducible rfl))
                  simp only [Act.put, List.setIfInBounds_toArray, List.set_cons_zero, List.set_cons_succ]
                  refine wpAnyL_ready (rs := [23]) (by kernel_rfl) (by simp) ?_
                  refine AllReadyL.cons rfl (fun K hK => ?_) ?_
                  · go_simp
                    refine hK.out _ _ (.inl rfl) (fun _ => ?_)
                    try simp only [Act.put, List.setIfInBounds_toArray, List.set_cons_zero, List.set_cons_succ]
                    refine wpAnyL_done (by kernel_rfl) ?_ _
                    refine NoPanic.normal ?_
                    go_wp2
                    go_ret
                    exact ⟨rfl, begin_close hK0.out HRA.out hins.out hk hl64 hpl (by have := hbl; omega) HK90.out HO90.out⟩
                  exact AllReadyL.nil
                exact AllReadyL.nil
              exact AllReadyL.nil
            exact AllReadyL.nil
          exact AllReadyL.nil
        exact AllReadyL.nil
      refine AllReadyL.cons rfl (fun K hK => ?_) ?_
      · go_simp
        refine hK.out _ _ (.inr (by (refine sB ?_ hbl2 hpl2 hbc3 hc1 hfz; (repeat (first | exact HK90.out | exact HK83.out | exact HK78.out | exact Keep.refl _ _ | refine Keep.drew ?_ | refine Keep.drewN ?_ _ | refine Keep.alloc ?_ _ | refine Keep.setNew ?_ (by omega) _)); done))) (fun hS16 => ?_)
        replace hS16 := hS16.resolve_left (by decide)
        try simp only [Act.put, List.setIfInBounds_toArray, List.set_cons_zero, List.set_cons_succ]
        refine wpAnyL_ready (rs := [1]) (by kernel_rfl) (by simp) ?_
        refine AllReadyL.cons rfl (fun K hK => ?_) ?_
        · go_simp
          refine hK.out _ _ (.inr (by (refine sB ?_ hbl2 hpl2 hbc3 hc1 hfz; (repeat (first | exact HK90.out | exact HK83.out | exact HK78.out | exact Keep.refl _ _ | refine Keep.drew ?_ | refine Keep.drewN ?_ _ | refine Keep.alloc ?_ _ | refine Keep.setNew ?_ (by omega) _)); done))) (fun hS17 => ?_)
          replace hS17 := hS17.resolve_left (by decide)
          try simp only [Act.put, List.setIfInBounds_toArray, List.set_cons_zero, List.set_cons_succ]
          refine wpAnyL_ready (rs := [8]) (by kernel_rfl) (by simp) ?_
          refine AllReadyL.cons rfl (fun K hK => ?_) ?_
          · refine step_app et36 (by rfl) (.tmp 71) (.tmp 77) (by rfl) w2.heap.size _ 0 [] (by rfl) (own_empty_at (by simp only [heap_alloc_at, heap_drewN, heap_drew, World.size_alloc, Nat.left_eq_add, Nat.add_eq_left, Nat.reduceEqDiff, reduceIte, Nat.succ_ne_self, Nat.add_left_cancel_iff]) (by simp)) vlo k (mvE.cs (L.take k)) (by rfl) (RLO.out.keep (S := fun _ => False) (by (repeat (first | exact Keep.refl _ _ | exact Keep.refl _ _ | refine Keep.drew ?_ | refine Keep.drewN ?_ _ | refine Keep.alloc ?_ _ | refine Keep.setNew ?_ (by omega) _)); done) (fun _ _ _ _ => id)) (mvE.cs_one_cell _) (by unfold maxLen; omega) (by omega) (by simp <;> omega) ?_
            intro v78 w78 ho78 hg78
            have HK78 : Hid (Keep (fun _ => False) w2 w78) := Keep.grown (by (repeat (first | exact Keep.refl _ _ | exact Keep.refl _ _ | refine Keep.drew ?_ | refine Keep.drewN ?_ _ | refine Keep.alloc ?_ _ | refine Keep.setNew ?_ (by omega) _)); done) hg78 (fun x h1 h2 => by simp [Value.ownBlock] at h1; omega)
            have HO78 := Lib.hid ho78
            have HG78 := Lib.hid hg78
            clear ho78 hg78
            refine hK.out _ _ (.inr (by (refine sB ?_ hbl2 hpl2 hbc3 hc1 hfz; (repeat (first | exact HK90.out | exact HK83.out | exact HK78.out | exact Keep.refl _ _ | refine Keep.drew ?_ | refine Keep.drewN ?_ _ | refine Keep.alloc ?_ _ | refine Keep.setNew ?_ (by omega) _)); done))) (fun hS18 => ?_)
            replace hS18 := hS18.resolve_left (by decide)
            try simp only [Act.put, List.setIfInBounds_toArray, List.set_cons_zero, List.set_cons_succ]
            refine wpAnyL_ready (rs := [13]) (by kernel_rfl) (by simp) ?_
            refine AllReadyL.cons rfl (fun K hK => ?_) ?_
            · refine step_app et36 (by rfl) (.tmp 78) (.tmp 82) (by rfl) w2.heap.size v78 _ _ (by rfl) (by first | exact HO78.out | exact HO78.out.alloc _ | fail) _ 1 [.int .i64 f, .int .i64 t, .int .i64 1, .int .i64 0] (by rfl) (by refine Reads.new (e := 31) (z := (0, 0)) ?_ rfl _; first | (refine (HG78.out.block _ ?_ ?_).trans ?_; all_goals (first | (simp only [heap_alloc_at, heap_drewN, heap_drew, World.size_alloc, Nat.left_eq_add, Nat.add_eq_left, Nat.reduceEqDiff, reduceIte, Nat.succ_ne_self, Nat.add_left_cancel_iff]; done) | (simp [Value.ownBlock, Act.eval]; done) | (simp only [World.size_alloc, World.size_drew, heap_drewN]; omega) | (show some _ ≠ some _; simp; done) | (show some _ ≠ some _; intro hh; injection hh; omega))) | (simp only [heap_alloc_at, heap_drewN, heap_drew, World.size_alloc, Nat.left_eq_add, Nat.add_eq_left, Nat.reduceEqDiff, reduceIte, Nat.succ_ne_self, Nat.add_left_cancel_iff]; done) | fail) (by simp [Value.oneCell']) (by unfold maxLen; omega) (by omega) (by have := HK78.out.size; simp <;> omega) ?_
              intro v83 w83 ho83 hg83
              have HK83 : Hid (Keep (fun _ => False) w2 w83) := Keep.grown (by (repeat (first | exact HK78.out | exact Keep.refl _ _ | refine Keep.drew ?_ | refine Keep.drewN ?_ _ | refine Keep.alloc ?_ _ | refine Keep.setNew ?_ (by omega) _)); done) hg83 (fun x h1 h2 => by have := (HO78.out.lt x h1).1; omega)
              have HO83 := Lib.hid ho83
              clear ho83 hg83
              refine hK.out _ _ (.inr (by (refine sB ?_ hbl2 hpl2 hbc3 hc1 hfz; (repeat (first | exact HK90.out | exact HK83.out | exact HK78.out | exact Keep.refl _ _ | refine Keep.drew ?_ | refine Keep.drewN ?_ _ | refine Keep.alloc ?_ _ | refine Keep.setNew ?_ (by omega) _)); done))) (fun hS19 => ?_)
              replace hS19 := hS19.resolve_left (by decide)
              try simp only [Act.put, List.setIfInBounds_toArray, List.set_cons_zero, List.set_cons_succ]
              refine wpAnyL_ready (rs := [20]) (by kernel_rfl) (by simp) ?_
              refine AllReadyL.cons rfl (fun K hK => ?_) ?_
              · refine step_app et36 (by rfl) (.tmp 83) (.tmp 89) (by rfl) w2.heap.size v83 _ _ (by rfl) HO83.out vhi (L.length - k) (mvE.cs (L.drop k)) (by rfl) (RHI.out.keep HK83.out (fun _ _ _ _ => id)) (mvE.cs_one_cell _) (by unfold maxLen; omega) (by omega) (by have := HK83.out.size; omega) ?_
                intro v90 w90 ho90 hg90
                obtain ⟨a90, l90, c90, rfl⟩ := own_slice ho90
                have HK90 : Hid (Keep (fun _ => False) w2 w90) := Keep.grown HK83.out hg90 (fun x h1 h2 => by have := (HO83.out.lt x h1).1; omega)
                have HO90 := Lib.hid ho90
                clear ho90 hg90
                refine hK.out _ _ (.inr (by (refine sB ?_ hbl2 hpl2 hbc3 hc1 hfz; (repeat (first | exact HK90.out | exact HK83.out | exact HK78.out | exact Keep.refl _ _ | refine Keep.drew ?_ | refine Keep.drewN ?_ _ | refine Keep.alloc ?_ _ | refine Keep.setNew ?_ (by omega) _)); done))) (fun hS20 => ?_)
                replace hS20 := hS20.resolve_left (by decide)
                try simp only [Act.put, List.setIfInBounds_toArray, List.set_cons_zero, List.set_cons_succ]
                refine wpAnyL_ready (rs := [21]) (by kernel_rfl) (by simp) ?_
                refine AllReadyL.cons rfl (fun K hK => ?_) ?_
                · go_simp
                  refine hK.out _ _ (.inr (by (refine sB ?_ hbl2 hpl2 hbc3 hc1 hfz; (repeat (first | exact HK90.out | exact HK83.out | exact HK78.out | exact Keep.refl _ _ | refine Keep.drew ?_ | refine Keep.drewN ?_ _ | refine Keep.alloc ?_ _ | refine Keep.setNew ?_ (by omega) _)); done))) (fun hS21 => ?_)
                  replace hS21 := hS21.resolve_left (by decide)
                  try simp only [Act.put, List.setIfInBounds_toArray, List.set_cons_zero, List.set_cons_succ]
                  refine wpAnyL_take 22 (v := ?_) rfl (by kernel_rfl) (by kernel_rfl) (by kernel_rfl) (by kernel_rfl) (fun _ _ _ h => h) (Or.inl ⟨by rfl, ?_⟩) (by assumption) ?_
                  rotate_left
                  · (intro w hSw; (try dsimp only at hSw); go_split_ands; go_simp; try (with_reducible rfl))
                  simp only [Act.put, List.setIfInBounds_toArray, List.set_cons_zero, List.set_cons_succ]
                  refine wpAnyL_ready (rs := [23]) (by kernel_rfl) (by simp) ?_
                  refine AllReadyL.cons rfl (fun K hK => ?_) ?_
                  · go_simp
                    refine hK.out _ _ (.inl rfl) (fun _ => ?_)
                    try simp only [Act.put, List.setIfInBounds_toArray, List.set_cons_zero, List.set_cons_succ]
                    refine wpAnyL_done (by kernel_rfl) ?_ _
                    refine NoPanic.normal ?_
                    go_wp2
                    go_ret
                    exact ⟨rfl, begin_close hK0.out HRA.out hins.out hk hl64 hpl (by have := hbl; omega) HK90.out HO90.out⟩
                  exact AllReadyL.nil
                exact AllReadyL.nil
              exact AllReadyL.nil
            exact AllReadyL.nil
          exact AllReadyL.nil
        exact AllReadyL.nil
      exact AllReadyL.nil



end Go.Proofs.Ytnlalihapmlceaa
