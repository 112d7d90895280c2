/- Reservations: Fill, Clear, Break. -/
import Derived.Test.YtjkgkkddkiacoaaE
set_option linter.unusedVariables false
set_option linter.unusedSimpArgs false
namespace Go.Proofs.Ytjkgkkddkiacoaa
open Go.RowKit Go.Own

theorem own_zero {w : World} {B N : Nat} {e : TypeId} {k : Nat} (h : w.heap[N]? = some (.cells #[] e (0, 0))) (hB : B ≤ N) : w.ownsRow B e k (.slice (some ⟨N, 0, none⟩) 0 0) 0 [] := own_empty_at h hB

set_option maxRecDepth 100000 in
set_option maxHeartbeats 2000000 in
theorem break_one (B p : Nat) (v : Value) (x : Rv) (y : Nat) (hy : y < 1024) (hx : x.p = ((y / 8 * 8 : Nat) : Int)) (hf : 0 ≤ x.f ∧ x.f < 100000) (hb : x.b < 256) (w : World) (hB : B ≤ w.heap.size) (hR : RepR w B p v [x]) :
    Calls Try.prog 16 #[.pointer (some ⟨p, 0, none⟩), .int .i64 x.s, .int .i64 y] w fun e w' => ∃ v' u, e = .returned (.tuple #[u, .int .i64 0]) ∧ RepR w' B p v' [] ∧ OwnL inE w' w.heap.size 3 u (opN x.f x.b 8) ∧ Keep (fun z => z = p) w w' := by
  obtain ⟨g, cap, rfl, hBg, hcap, hgl⟩ := hR.hv.form (by simp)
  have hcap' : 1 ≤ cap := hcap
  have hlen : ([x] : List Rv).length = 1 := rfl
  rw [hlen] at hR
  have HX := Lib.hid hx
  clear hx
  go_enter Try.func16, Try.ntmps16
  go_wp2_with (first | (go_at_call 31; go_loud (refine (where_one B p _ x y hy HX.out _ hR).mono ?_; rintro e w1 ⟨rfl, hk1⟩; have HR1 := Lib.hid (hR.keep0 hk1); have HK1 := Lib.hid hk1; clear hk1; have hc0 := HR1.out.c0; obtain ⟨c0, c1, c2, c3⟩ := rv_cells (i := 0) HR1.out.hv (by simp); simp only [List.getElem_cons_zero, Nat.zero_mul, Nat.zero_add] at c0 c1 c2 c3))
                     | (go_at_call 29; go_loud (refine (open_any x hf hb _).mono ?_; rintro e w3 ⟨u3, rfl, hO3, hk3⟩; have HO3 := Lib.hid hO3; have HR3 := Lib.hid (HR1.out.keep0 hk3); have HK3 := Lib.hid (HK1.out.trans hk3); clear hO3 hk3)))
  clear hc0 c0 c1 c2 c3
  have hs1 := HK1.out.size
  have hs3 := HK3.out.size
  have hc0 := HR3.out.c0
  have fz : w3.frozen? ⟨p, 0, none⟩ = false := frozen_block HR3.out.hp
  obtain ⟨hlo, ad, hhi⟩ := sl_one HR3.out.hv hcap'
  have hw1 : IntKind.i64.wrap 1 = 1 := by decide
  refine wp_region_noPanic ?_
  refine wp_region_L (fun w' => w'.cell? ⟨p, 0, none⟩ = some (.slice (some ⟨g, 0, none⟩) 1 cap) ∧ w'.frozen? ⟨p, 0, none⟩ = false) 19 (by kernel_rfl) (by (refine sM ?_ hc0 fz; (repeat (first | exact Keep.refl _ _ | exact Keep.refl _ _ | refine Keep.drew ?_ | refine Keep.drewN ?_ _ | refine Keep.alloc ?_ _ | refine Keep.setNew ?_ (by omega) _)); done)) (fun hS0 => ?_)
  refine wpAnyL_take 0 (v := ?_) rfl (by kernel_rfl) (by kernel_rfl) (by kernel_rfl) (by kernel_rfl) (fun _ _ _ h => h) (Or.inl ⟨by rfl, ?_⟩) (by assumption) ?_
  rotate_left
  · (intro w hSw; (try dsimp only at hSw); go_split_ands; go_simp; try (with_reducible rfl))
  simp only [Act.put, List.setIfInBounds_toArray, List.set_cons_zero, List.set_cons_succ]
  refine wpAnyL_take 2 (v := ?_) rfl (by kernel_rfl) (by kernel_rfl) (by kernel_rfl) (by kernel_rfl) (fun _ _ _ h => h) (Or.inl ⟨by rfl, ?_⟩) (by assumption) ?_
  rotate_left
  · (intro w hSw; (try dsimp only at hSw); go_split_ands; go_simp; try (with_reducible rfl))
  simp only [Act.put, List.setIfInBounds_toArray, List.set_cons_zero, List.set_cons_succ]
  refine wpAnyL_take 3 (v := ?_) rfl (by kernel_rfl) (by kernel_rfl) (by kernel_rfl) (by kernel_rfl) (fun _ _ _ h => h) (Or.inl ⟨by rfl, ?_⟩) (by assumption) ?_
  rotate_left
  · (intro w hSw; (try dsimp only at hSw); go_split_ands; go_simp; try (with_reducible rfl))
  simp only [Act.put, List.setIfInBounds_toArray, List.set_cons_zero, List.set_cons_succ]
  refine wpAnyL_take 4 (v := ?_) rfl (by kernel_rfl) (by kernel_rfl) (by kernel_rfl) (by kernel_rfl) (fun _ _ _ h => h) (Or.inl ⟨by rfl, ?_⟩) (by assumption) ?_
  rotate_left
  · (intro w hSw; (try dsimp only at hSw); go_split_ands; go_simp; try (with_reducible rfl))
  simp only [Act.put, List.setIfInBounds_toArray, List.set_cons_zero, List.set_cons_succ]
  refine wpAnyL_take 5 (v := ?_) rfl (by kernel_rfl) (by kernel_rfl) (by kernel_rfl) (by kernel_rfl) (fun _ _ _ h => h) (Or.inl ⟨by rfl, ?_⟩) (by assumption) ?_
  rotate_left
  · (intro w hSw; (try dsimp only at hSw); go_split_ands; go_simp; try (with_reducible rfl))
  simp only [Act.put, List.setIfInBounds_toArray, List.set_cons_zero, List.set_cons_succ]
  refine wpAnyL_take 6 (v := ?_) rfl (by kernel_rfl) (by kernel_rfl) (by kernel_rfl) (by kernel_rfl) (fun _ _ _ h => h) (Or.inl ⟨by rfl, ?_⟩) (by assumption) ?_
  rotate_left
  · (intro w hSw; (try dsimp only at hSw); go_split_ands; go_simp; try (with_reducible rfl))
  simp only [Act.put, List.setIfInBounds_toArray, List.set_cons_zero, List.set_cons_succ]
  refine wpAnyL_take 7 (v := ?_) rfl (by kernel_rfl) (by kernel_rfl) (by kernel_rfl) (by kernel_rfl) (fun _ _ _ h => h) (Or.inl ⟨by rfl, ?_⟩) (by assumption) ?_
  rotate_left
  · (intro w hSw; (try dsimp only at hSw); go_split_ands; go_simp; try (with_reducible rfl))
  simp only [Act.put, List.setIfInBounds_toArray, List.set_cons_zero, List.set_cons_succ]
  refine wpAnyL_take 9 (v := ?_) rfl (by kernel_rfl) (by kernel_rfl) (by kernel_rfl) (by kernel_rfl) (fun _ _ _ h => h) (Or.inl ⟨by rfl, ?_⟩) (by assumption) ?_
  rotate_left
  · (intro w hSw; (try dsimp only at hSw); go_split_ands; go_simp; try (with_reducible rfl))
  simp only [Act.put, List.setIfInBounds_toArray, List.set_cons_zero, List.set_cons_succ]
  refine wpAnyL_take 10 (v := ?_) rfl (by kernel_rfl) (by kernel_rfl) (by kernel_rfl) (by kernel_rfl) (fun _ _ _ h => h) (Or.inl ⟨by rfl, ?_⟩) (by assumption) ?_
  rotate_left
  · (intro w hSw; (try dsimp only at hSw); go_split_ands; go_simp; try (with_reducible rfl))
  simp only [Act.put, List.setIfInBounds_toArray, List.set_cons_zero, List.set_cons_succ]
  refine wpAnyL_take 11 (v := ?_) rfl (by kernel_rfl) (by kernel_rfl) (by kernel_rfl) (by kernel_rfl) (fun _ _ _ h => h) (Or.inl ⟨by rfl, ?_⟩) (by assumption) ?_
  rotate_left
  · (intro w hSw; (try dsimp only at hSw); go_split_ands; go_simp; try (with_reducible rfl))
  simp only [Act.put, List.setIfInBounds_toArray, List.set_cons_zero, List.set_cons_succ]
  refine wpAnyL_take 12 (v := ?_) rfl (by kernel_rfl) (by kernel_rfl) (by kernel_rfl) (by kernel_rfl) (fun _ _ _ h => h) (Or.inl ⟨by rfl, ?_⟩) (by assumption) ?_
  rotate_left
  · (intro w hSw; (try dsimp only at hSw); go_split_ands; go_simp; try (with_reducible rfl))
  simp only [Act.put, List.setIfInBounds_toArray, List.set_cons_zero, List.set_cons_succ]
  refine wpAnyL_take 13 (v := ?_) rfl (by kernel_rfl) (by kernel_rfl) (by kernel_rfl) (by kernel_rfl) (fun _ _ _ h => h) (Or.inl ⟨by rfl, ?_⟩) (by assumption) ?_
  rotate_left
  · (intro w hSw; (try dsimp only at hSw); go_split_ands; go_simp; try (with_reducible rfl))
  simp only [Act.put, List.setIfInBounds_toArray, List.set_cons_zero, List.set_cons_succ]
  refine wpAnyL_take 14 (v := ?_) rfl (by kernel_rfl) (by kernel_rfl) (by kernel_rfl) (by kernel_rfl) (fun _ _ _ h => h) (Or.inl ⟨by rfl, ?_⟩) (by assumption) ?_
  rotate_left
  · (intro w hSw; (try dsimp only at hSw); go_split_ands; go_simp; try (with_reducible rfl))
  simp only [Act.put, List.setIfInBounds_toArray, List.set_cons_zero, List.set_cons_succ]
  refine wpAnyL_take 15 (v := ?_) rfl (by kernel_rfl) (by kernel_rfl) (by kernel_rfl) (by kernel_rfl) (fun _ _ _ h => h) (Or.inl ⟨by rfl, ?_⟩) (by assumption) ?_
  rotate_left
  · (intro w hSw; (try dsimp only at hSw); go_split_ands; go_simp; try (with_reducible rfl))
  simp only [Act.put, List.setIfInBounds_toArray, List.set_cons_zero, List.set_cons_succ]
  refine wpAnyL_ready (rs := [1]) (by kernel_rfl) (by simp) ?_
  refine AllReadyL.cons rfl (fun K hK => ?_) ?_
  · go_simp
    refine hK.out _ _ (.inr (by (refine sM ?_ hc0 fz; (repeat (first | exact Keep.refl _ _ | exact Keep.refl _ _ | refine Keep.drew ?_ | refine Keep.drewN ?_ _ | refine Keep.alloc ?_ _ | refine Keep.setNew ?_ (by omega) _)); done))) (fun hS14 => ?_)
    replace hS14 := hS14.resolve_left (by decide)
    try simp only [Act.put, List.setIfInBounds_toArray, List.set_cons_zero, List.set_cons_succ]
    refine wpAnyL_ready (rs := [8]) (by kernel_rfl) (by simp) ?_
    refine AllReadyL.cons rfl (fun K hK => ?_) ?_
    · go_simp
      refine hK.out _ _ (.inr (by (refine sM ?_ hc0 fz; (repeat (first | exact Keep.refl _ _ | exact Keep.refl _ _ | refine Keep.drew ?_ | refine Keep.drewN ?_ _ | refine Keep.alloc ?_ _ | refine Keep.setNew ?_ (by omega) _)); done))) (fun hS15 => ?_)
      replace hS15 := hS15.resolve_left (by decide)
      try simp only [Act.put, List.setIfInBounds_toArray, List.set_cons_zero, List.set_cons_succ]
      refine wpAnyL_ready (rs := [16]) (by kernel_rfl) (by simp) ?_
      refine AllReadyL.cons rfl (fun K hK => ?_) ?_
      · go_simp
        refine hK.out _ _ (.inr (by (refine sM ?_ hc0 fz; (repeat (first | exact Keep.refl _ _ | exact Keep.refl _ _ | refine Keep.drew ?_ | refine Keep.drewN ?_ _ | refine Keep.alloc ?_ _ | refine Keep.setNew ?_ (by omega) _)); done))) (fun hS16 => ?_)
        replace hS16 := hS16.resolve_left (by decide)
        try simp only [Act.put, List.setIfInBounds_toArray, List.set_cons_zero, List.set_cons_succ]
        refine wpAnyL_ready (rs := [17]) (by kernel_rfl) (by simp) ?_
        refine AllReadyL.cons rfl (fun K hK => ?_) ?_
        · go_simp
          refine hK.out _ _ (.inr (by (refine sM ?_ hc0 fz; (repeat (first | exact Keep.refl _ _ | exact Keep.refl _ _ | refine Keep.drew ?_ | refine Keep.drewN ?_ _ | refine Keep.alloc ?_ _ | refine Keep.setNew ?_ (by omega) _)); done))) (fun hS17 => ?_)
          replace hS17 := hS17.resolve_left (by decide)
          try simp only [Act.put, List.setIfInBounds_toArray, List.set_cons_zero, List.set_cons_succ]
          refine wpAnyL_take 18 (v := ?_) rfl (by kernel_rfl) (by kernel_rfl) (by kernel_rfl) (by kernel_rfl) (fun _ _ _ h => h) (Or.inl ⟨by rfl, ?_⟩) (by assumption) ?_
          rotate_left
          · (intro w hSw; (try dsimp only at hSw); go_split_ands; go_simp; try (with_reducible rfl))
          simp only [Act.put, List.setIfInBounds_toArray, List.set_cons_zero, List.set_cons_succ]
          refine wpAnyL_ready (rs := [19]) (by kernel_rfl) (by simp) ?_
          refine AllReadyL.cons rfl (fun K hK => ?_) ?_
          · go_simp
            refine hK.out _ _ (.inl rfl) (fun _ => ?_)
            try simp only [Act.put, List.setIfInBounds_toArray, List.set_cons_zero, List.set_cons_succ]
            refine wpAnyL_done (by kernel_rfl) ?_ _
            refine NoPanic.normal ?_
            have hq := put_close (L' := []) (w2 := (w3.drew.alloc (.cells #[] 31))) HR3.out (by omega) (by simp) (by (repeat (first | exact Keep.refl _ _ | exact Keep.refl _ _ | refine Keep.drew ?_ | refine Keep.drewN ?_ _ | refine Keep.alloc ?_ _ | refine Keep.setNew ?_ (by omega) _)); done) (own_empty_at (N := w3.heap.size) (k := rvE.k) (heap_alloc_new w3.drew _) (Nat.le_refl _)) rfl rfl
            go_wp2
            go_ret2
            exact ⟨_, u3, rfl, hq.1, (HO3.out.base (C := w.heap.size) (fun z hz => by have := (HO3.out.lt z hz).1; omega)).keep hq.2.1 (fun z hz e => by have := (HO3.out.lt z hz).1; have := block_lt HR1.out.hp; omega), (HK3.out.mono (fun _ _ h => h.elim)).trans hq.2.1⟩
          exact AllReadyL.nil
        exact AllReadyL.nil
      exact AllReadyL.nil
    exact AllReadyL.nil
  exact AllReadyL.nil

end Go.Proofs.Ytjkgkkddkiacoaa
