/- Compounds: a frame is regained. -/
import Derived.Test.YtdomdjfecnbenaaP
set_option linter.unusedVariables false
set_option linter.unusedSimpArgs false
namespace Go.Proofs.Ytdomdjfecnbenaa
open Go.RowKit Go.Own

set_option maxHeartbeats 1000000 in
theorem regain_no (B p : Nat) (v u : Value) (L : List Cp) (Q : List Int) (x k : Nat) (hx : x < 1024) (w : World) (hR : RepC w B p v u L Q) (hn : whI L ((x / 8 * 8 : Nat) : Int) = k) (hk : k < L.length) (hd : L[k].b &&& 2 ^ (x % 8) = 0) :
    Calls Try.prog 21 #[.pointer (some ⟨p, 0, none⟩), .int .i64 x] w fun e w' => e = .returned (.int .i64 5) ∧ Keep (fun _ => False) w w' := by
  obtain ⟨g, cap, rfl, hBg, hcap, hgl⟩ := hR.hv.form (by intro e; subst e; simp at hk)
  have hl := hR.hl
  have hbit := pow_lt8 x
  have hlb := hR.hb _ (List.getElem_mem hk)
  have hand := u8_and_nat L[k].b (2 ^ (x % 8)) hlb hbit
  have htest : (((L[k].b &&& 2 ^ (x % 8) : Nat) : Int) == 0) = true := by simpa using hd
  have H1 := Lib.hid hd
  clear hd
  obtain ⟨r, hr⟩ : ∃ r, 2 ^ (x % 8) = r := ⟨_, rfl⟩
  have HRr := Lib.hid hr
  rw [hr] at hand htest
  have HBQ : Hid (∀ W, Calls Try.prog 29 #[.int .i64 x] W fun e w' => e = .returned (.int .u8 (r : Int)) ∧ w' = W) := fun W => by rw [← hr]; exact bit_q x hx W
  go_enter Try.func21, Try.ntmps21
  go_wp2_with (go_at_call 28; refine (find_yes B p _ u L Q x k hx _ hR hn).mono ?_; rintro e w1 ⟨rfl, hk1⟩; have HR1 := Lib.hid (hR.keep0 hk1))
  have hc0 := HR1.out.c0
  obtain ⟨c0, c1⟩ := cp_cells HR1.out.hv hk
  go_quiet ((go_at_call 29; exact Calls.quiet_of_same (HBQ.out _)))
  go_wp2
  go_ret
  exact ⟨rfl, hk1.drewN _⟩

def rgQ (L : List Cp) (Q : List Int) (k x : Nat) : List Int := if (L.getD k ⟨0, 0⟩).b &&& (255 - 2 ^ (x % 8)) = 0 then lvQ Q (L.getD k ⟨0, 0⟩).f else Q

set_option maxHeartbeats 4000000 in
theorem regain_yes (B p : Nat) (v u : Value) (L : List Cp) (Q : List Int) (x k : Nat) (hx : x < 1024) (w : World) (hB : B ≤ w.heap.size) (hR : RepC w B p v u L Q) (hn : whI L ((x / 8 * 8 : Nat) : Int) = k) (hk : k < L.length) (hd : L[k].b &&& 2 ^ (x % 8) ≠ 0) :
    Calls Try.prog 21 #[.pointer (some ⟨p, 0, none⟩), .int .i64 x] w fun e w' => e = .returned (.int .i64 0) ∧ ∃ u', RepC w' B p v u' (L.set k ⟨L[k].f, L[k].b &&& (255 - 2 ^ (x % 8))⟩) (rgQ L Q k x) ∧
      Keep (fun y => y = p ∨ v.ownBlock = some y) w w' ∧ (∀ y, u'.ownBlock = some y → u.ownBlock = some y ∨ w.heap.size ≤ y) := by
  obtain ⟨g, cap, rfl, hBg, hcap, hgl⟩ := hR.hv.form (by intro e; subst e; simp at hk)
  have hl := hR.hl
  have hbit := pow_lt8 x
  have hlb := hR.hb _ (List.getElem_mem hk)
  have hand := u8_and_nat L[k].b (2 ^ (x % 8)) hlb hbit
  have hor := u8_andNot_nat L[k].b (2 ^ (x % 8)) hlb hbit
  have hor8 : L[k].b &&& (255 - 2 ^ (x % 8)) < 256 := Nat.lt_of_le_of_lt Nat.and_le_left hlb
  have htest : (((L[k].b &&& 2 ^ (x % 8) : Nat) : Int) == 0) = false := by simpa using hd
  have H1 := Lib.hid hd
  clear hd
  have HQ : Hid (rgQ L Q k x = if L[k].b &&& (255 - 2 ^ (x % 8)) = 0 then lvQ Q L[k].f else Q) := by unfold Hid rgQ; simp [hk]
  obtain ⟨r, hr⟩ : ∃ r, 2 ^ (x % 8) = r := ⟨_, rfl⟩
  rw [hr] at hand htest hor hor8 HQ ⊢
  have HBQ : Hid (∀ W, Calls Try.prog 29 #[.int .i64 x] W fun e w' => e = .returned (.int .u8 (r : Int)) ∧ w' = W) := fun W => by rw [← hr]; exact bit_q x hx W
  clear hr
  obtain ⟨m, hm⟩ : ∃ m, L[k].b &&& (255 - r) = m := ⟨_, rfl⟩
  rw [hm] at hor hor8 HQ ⊢
  clear hm
  go_enter Try.func21, Try.ntmps21
  go_wp2_with (go_at_call 28; refine (find_yes B p _ u L Q x k hx _ hR hn).mono ?_; rintro e w1 ⟨rfl, hk1⟩; have HR1 := Lib.hid (hR.keep0 hk1))
  have hc0 := HR1.out.c0
  obtain ⟨c0, c1⟩ := cp_cells HR1.out.hv hk
  go_quiet ((go_at_call 29; exact Calls.quiet_of_same (HBQ.out _)))
  go_wp2
  generalize hw9 : World.drewN w1 nq = w9
  have HK9 : Hid (Keep (fun _ => False) w w9) := by rw [← hw9]; exact (by (repeat (first | exact hk1 | exact Keep.refl _ _ | refine Keep.drew ?_ | refine Keep.drewN ?_ _ | refine Keep.alloc ?_ _ | refine Keep.setNew ?_ (by omega) _)); done)
  clear hw9 hc0 c0 c1
  have HR9 := Lib.hid (hR.keep0 HK9.out)
  have hc0 := HR9.out.c0
  obtain ⟨c0, c1⟩ := cp_cells HR9.out.hv hk
  have fz : w9.frozen? ⟨g, k * 2 + 1, none⟩ = false := HR9.out.hv.frozen _
  have HM10 : Hid (RepC (w9.drew.setCell ⟨g, k * 2 + 1, none⟩ (.int .u8 m)) B p (.slice (some ⟨g, 0, none⟩) L.length cap) u (L.set k ⟨L[k].f, m⟩) Q) := (HR9.out.keep0 (by (repeat (first | exact Keep.refl _ _ | exact Keep.refl _ _ | refine Keep.drew ?_ | refine Keep.drewN ?_ _ | refine Keep.alloc ?_ _ | refine Keep.setNew ?_ (by omega) _)); done)).mark hk hor8
  have K10 : Hid (Keep (fun y => y = p ∨ (Value.slice (some ⟨g, 0, none⟩) L.length cap).ownBlock = some y) w (w9.drew.setCell ⟨g, k * 2 + 1, none⟩ (.int .u8 m))) := (HK9.out.drew.mono (fun _ _ h => h.elim)).setCell (fun _ => .inr rfl) _
  have hne := hR.nv
  simp [Value.ownBlock] at hne
  have hnep : p ≠ g := fun e => hne e.symm
  refine wp_region_noPanic ?_
  refine wp_region_L (fun w' => w'.cell? ⟨p, 0, none⟩ = some (.slice (some ⟨g, 0, none⟩) L.length cap) ∧ w'.cell? ⟨g, k * 2 + 1, none⟩ = some (.int .u8 L[k].b) ∧ w'.frozen? ⟨g, k * 2 + 1, none⟩ = false) 13 (by kernel_rfl) (by (exact ⟨hc0, c1, fz⟩)) (fun hS0 => ?_)
  refine wpAnyL_take 0 (v := ?_) rfl (by kernel_rfl) (by kernel_rfl) (by kernel_rfl) (by kernel_rfl) (fun _ _ _ h => h) (Or.inl ⟨by rfl, ?_⟩) (by assumption) ?_
  rotate_left
  · (intro w hSw; (try dsimp only at hSw); go_split_ands; go_simp; try (with_reducible rfl))
  simp only [Act.put, List.setIfInBounds_toArray, List.set_cons_zero, List.set_cons_succ]
  refine wpAnyL_take 1 (v := ?_) rfl (by kernel_rfl) (by kernel_rfl) (by kernel_rfl) (by kernel_rfl) (fun _ _ _ h => h) (Or.inl ⟨by rfl, ?_⟩) (by assumption) ?_
  rotate_left
  · (intro w hSw; (try dsimp only at hSw); go_split_ands; go_simp; try (with_reducible rfl))
  simp only [Act.put, List.setIfInBounds_toArray, List.set_cons_zero, List.set_cons_succ]
  refine wpAnyL_take 2 (v := ?_) rfl (by kernel_rfl) (by kernel_rfl) (by kernel_rfl) (by kernel_rfl) (fun _ _ _ h => h) (Or.inl ⟨by rfl, ?_⟩) (by assumption) ?_
  rotate_left
  · (intro w hSw; (try dsimp only at hSw); go_split_ands; go_simp; try (with_reducible rfl))
  simp only [Act.put, List.setIfInBounds_toArray, List.set_cons_zero, List.set_cons_succ]
  refine wpAnyL_take 3 (v := ?_) rfl (by kernel_rfl) (by kernel_rfl) (by kernel_rfl) (by kernel_rfl) (fun _ _ _ h => h) (Or.inl ⟨by rfl, ?_⟩) (by assumption) ?_
  rotate_left
  · (intro w hSw; (try dsimp only at hSw); go_split_ands; go_simp; try (with_reducible rfl))
  simp only [Act.put, List.setIfInBounds_toArray, List.set_cons_zero, List.set_cons_succ]
  refine wpAnyL_take 4 (v := ?_) rfl (by kernel_rfl) (by kernel_rfl) (by kernel_rfl) (by kernel_rfl) (fun _ _ _ h => h) (Or.inl ⟨by rfl, ?_⟩) (by assumption) ?_
  rotate_left
  · (intro w hSw; (try dsimp only at hSw); go_split_ands; go_simp; try (with_reducible rfl))
  simp only [Act.put, List.setIfInBounds_toArray, List.set_cons_zero, List.set_cons_succ]
  refine wpAnyL_take 5 (v := ?_) rfl (by kernel_rfl) (by kernel_rfl) (by kernel_rfl) (by kernel_rfl) (fun _ _ _ h => h) (Or.inl ⟨by rfl, ?_⟩) (by assumption) ?_
  rotate_left
  · (intro w hSw; (try dsimp only at hSw); go_split_ands; go_simp; try (with_reducible rfl))
  simp only [Act.put, List.setIfInBounds_toArray, List.set_cons_zero, List.set_cons_succ]
  refine wpAnyL_take 6 (v := ?_) rfl (by kernel_rfl) (by kernel_rfl) (by kernel_rfl) (by kernel_rfl) (fun _ _ _ h => h) (Or.inl ⟨by rfl, ?_⟩) (by assumption) ?_
  rotate_left
  · (intro w hSw; (try dsimp only at hSw); go_split_ands; go_simp; try (with_reducible rfl))
  simp only [Act.put, List.setIfInBounds_toArray, List.set_cons_zero, List.set_cons_succ]
  refine wpAnyL_take 7 (v := ?_) rfl (by kernel_rfl) (by kernel_rfl) (by kernel_rfl) (by kernel_rfl) (fun _ _ _ h => h) (Or.inl ⟨by rfl, ?_⟩) (by assumption) ?_
  rotate_left
  · (intro w hSw; (try dsimp only at hSw); go_split_ands; go_simp; try (with_reducible rfl))
  simp only [Act.put, List.setIfInBounds_toArray, List.set_cons_zero, List.set_cons_succ]
  refine wpAnyL_take 8 (v := ?_) rfl (by kernel_rfl) (by kernel_rfl) (by kernel_rfl) (by kernel_rfl) (fun _ _ _ h => h) (Or.inl ⟨by rfl, ?_⟩) (by assumption) ?_
  rotate_left
  · (intro w hSw; (try dsimp only at hSw); go_split_ands; go_simp; try (with_reducible rfl))
  simp only [Act.put, List.setIfInBounds_toArray, List.set_cons_zero, List.set_cons_succ]
  refine wpAnyL_ready (rs := [9]) (by kernel_rfl) (by simp) ?_
  refine AllReadyL.cons rfl (fun K hK => ?_) ?_
  · go_simp
    go_at_call 29
    refine (HBQ.out _).mono ?_
    rintro e w12 ⟨rfl, rfl⟩
    refine hK.out _ _ (.inr (by (exact ⟨hc0, c1, fz⟩))) (fun hS9 => ?_)
    replace hS9 := hS9.resolve_left (by decide)
    try simp only [Act.put, List.setIfInBounds_toArray, List.set_cons_zero, List.set_cons_succ]
    refine wpAnyL_take 10 (v := ?_) rfl (by kernel_rfl) (by kernel_rfl) (by kernel_rfl) (by kernel_rfl) (fun _ _ _ h => h) (Or.inl ⟨by rfl, ?_⟩) (by assumption) ?_
    rotate_left
    · (intro w hSw; (try dsimp only at hSw); go_split_ands; go_simp; try (with_reducible rfl))
    simp only [Act.put, List.setIfInBounds_toArray, List.set_cons_zero, List.set_cons_succ]
    refine wpAnyL_ready (rs := [11]) (by kernel_rfl) (by simp) ?_
    refine AllReadyL.cons rfl (fun K hK => ?_) ?_
    · go_simp
      refine hK.out _ _ (.inr (by (exact ⟨hc0, c1, fz⟩))) (fun hS11 => ?_)
      replace hS11 := hS11.resolve_left (by decide)
      try simp only [Act.put, List.setIfInBounds_toArray, List.set_cons_zero, List.set_cons_succ]
      refine wpAnyL_take 12 (v := ?_) rfl (by kernel_rfl) (by kernel_rfl) (by kernel_rfl) (by kernel_rfl) (fun _ _ _ h => h) (Or.inl ⟨by rfl, ?_⟩) (by assumption) ?_
      rotate_left
      · (intro w hSw; (try dsimp only at hSw); go_split_ands; go_simp; try (with_reducible rfl))
      simp only [Act.put, List.setIfInBounds_toArray, List.set_cons_zero, List.set_cons_succ]
      refine wpAnyL_ready (rs := [13]) (by kernel_rfl) (by simp) ?_
      refine AllReadyL.cons rfl (fun K hK => ?_) ?_
      · go_simp
        refine hK.out _ _ (.inl rfl) (fun _ => ?_)
        try simp only [Act.put, List.setIfInBounds_toArray, List.set_cons_zero, List.set_cons_succ]
        refine wpAnyL_done (by kernel_rfl) ?_ _
        refine NoPanic.normal ?_
        by_cases h5 : m = 0
        · have h5' : ((m : Int) == 0) = true := by simp [h5]
          have H5 := Lib.hid h5
          clear h5
          go_wp2_with (go_at_call 33; go_loud (refine (leave_any B p _ u _ Q L[k].f _ (by have := K10.out.size; omega) HM10.out).mono ?_; rintro e w11 ⟨rfl, u', hR11, hk11, hu11⟩; have HR11 := Lib.hid hR11; have HK11 := Lib.hid hk11; have HU11 := Lib.hid hu11; clear hR11 hk11 hu11))
          go_ret
          have hsz := K10.out.size
          exact ⟨rfl, u', by rw [HQ.out, if_pos H5.out]; exact HR11.out, K10.out.trans (HK11.out.mono (fun _ _ h => .inl h)), fun y hy => by rcases HU11.out y hy with h | h; exact .inl h; exact .inr (by omega)⟩
        · have h5' : ((m : Int) == 0) = false := by simp; omega
          have H5 := Lib.hid h5
          clear h5
          go_wp2
          go_ret
          exact ⟨rfl, u, by rw [HQ.out, if_neg H5.out]; exact HM10.out, K10.out, fun y hy => .inl hy⟩
      exact AllReadyL.nil
    exact AllReadyL.nil
  exact AllReadyL.nil

end Go.Proofs.Ytdomdjfecnbenaa
