/- Moves: the reference's Tick, Begin, New. -/
import Derived.Test.YtnlalihapmlceaaH
import Derived.Deep.OwnRows
set_option linter.unusedVariables false
set_option linter.unusedSimpArgs false
namespace Go.Proofs.Ytnlalihapmlceaa
open Go.RowKit Go.Own

def ones (A : List Int) : List Int := A.map (· + 1)
def onesN (A : List Int) (k : Nat) : List Int := ones (A.take k) ++ A.drop k
theorem onesN_length {A : List Int} {k : Nat} (h : k ≤ A.length) : (onesN A k).length = A.length := by simp [onesN, ones]; omega
theorem onesN_get {A : List Int} {k : Nat} (h : k < A.length) : gi (onesN A k) k = gi A k := by
  have e : (ones (A.take k)).length = k := by simp [ones]; omega
  rw [gi_eq (by rw [onesN_length (by omega)]; exact h), gi_eq h]
  simp only [onesN]
  rw [List.getElem_append_right (by omega)]
  simp [e]
theorem onesN_set {A : List Int} {k : Nat} (h : k < A.length) : (onesN A k).set k (gi A k + 1) = onesN A (k + 1) := by
  have e : (ones (A.take k)).length = k := by simp [ones]; omega
  rw [gi_eq h]
  simp only [onesN]
  rw [List.set_append_right _ _ (by omega), e, Nat.sub_self, List.drop_eq_getElem_cons h, List.set_cons_zero, List.take_succ_eq_append_getElem h]
  simp only [ones, List.map_append, List.map_cons, List.map_nil, List.append_assoc, List.cons_append, List.nil_append]

set_option maxRecDepth 100000 in
set_option maxHeartbeats 2000000 in
theorem rtick_any {w : World} {p t s a : Nat} {most : Int} {T S A : List Int} (h : RepX w p t s a most T S A) (hA : ∀ i, i < 1024 → 0 ≤ gi A i ∧ gi A i ≤ 1000000) :
    Calls Try.prog 32 #[.pointer (some ⟨p, 0, none⟩)] w fun e w' => e = .returned (.tuple #[]) ∧ RepX w' p t s a most T S (ones A) ∧ Keep (XB p t s a) w w' := by
  have hlA := h.la
  go_enter Try.func32, Try.ntmps32
  go_wp2
  go_loopw [2] (fun i wr => ∃ k : Nat, k ≤ 1024 ∧ i = .int .i64 k ∧ RepX wr p t s a most T S (onesN A k) ∧ Keep (XB p t s a) w wr) (fun i _ => 1024 - (intOf i).toNat)
  case atStart => exact ⟨0, by omega, rfl, h, Keep.refl _ _⟩
  case round =>
    obtain ⟨k, hk, rfl, hR, hkeep⟩ := hrel
    have HR := Lib.hid hR
    have HK := Lib.hid hkeep
    clear hR hkeep
    by_cases hlt : k < 1024
    · have c3 := HR.out.c3
      have cA : wr.cell? ⟨a, k, none⟩ = some (.int .i64 (gi (onesN A k) k)) := cell_rowI HR.out.ha (by rw [HR.out.la]; omega)
      have fz : wr.frozen? ⟨a, k, none⟩ = false := frozen_rowI HR.out.ha
      rw [onesN_get (by omega)] at cA
      have hb := hA k hlt
      have hw1 : IntKind.i64.wrap (gi A k + 1) = gi A k + 1 := IntWalk.i64_in _ (by omega)
      go_wp2
      refine wp_region_noPanic ?_
      refine wp_region_L (fun w' => w'.cell? ⟨p, 3, none⟩ = some (.slice (some ⟨a, 0, none⟩) 1024 1024) ∧ w'.cell? ⟨a, k, none⟩ = some (.int .i64 (gi A k)) ∧ w'.frozen? ⟨a, k, none⟩ = false) 14 (by kernel_rfl) (by (exact ⟨c3, cA, fz⟩)) (fun hS0 => ?_)
      refine wpAnyL_take 0 (v := ?_) rfl (by kernel_rfl) (by kernel_rfl) (by kernel_rfl) (by kernel_rfl) (fun _ _ _ h => h) (Or.inl ⟨by rfl, ?_⟩) (by assumption) ?_
      rotate_left
      · (intro w hSw; (try dsimp only at hSw); go_split_ands; go_simp; try (with_reducible rfl))
      simp only [Act.put, List.setIfInBounds_toArray, List.set_cons_zero, List.set_cons_succ]
      refine wpAnyL_take 1 (v := ?_) rfl (by kernel_rfl) (by kernel_rfl) (by kernel_rfl) (by kernel_rfl) (fun _ _ _ h => h) (Or.inl ⟨by rfl, ?_⟩) (by assumption) ?_
      rotate_left
      · (intro w hSw; (try dsimp only at hSw); go_split_ands; go_simp; try (with_reducible rfl))
      simp only [Act.put, List.setIfInBounds_toArray, List.set_cons_zero, List.set_cons_succ]
      refine wpAnyL_take 2 (v := ?_) rfl (by kernel_rfl) (by kernel_rfl) (by kernel_rfl) (by kernel_rfl) (fun _ _ _ h => h) (Or.inl ⟨by rfl, ?_⟩) (by assumption) ?_
      rotate_left
      · (intro w hSw; (try dsimp only at hSw); go_split_ands; go_simp; try (with_reducible rfl))
      simp only [Act.put, List.setIfInBounds_toArray, List.set_cons_zero, List.set_cons_succ]
      refine wpAnyL_take 3 (v := ?_) rfl (by kernel_rfl) (by kernel_rfl) (by kernel_rfl) (by kernel_rfl) (fun _ _ _ h => h) (Or.inl ⟨by rfl, ?_⟩) (by assumption) ?_
      rotate_left
      · (intro w hSw; (try dsimp only at hSw); go_split_ands; go_simp; try (with_reducible rfl))
      simp only [Act.put, List.setIfInBounds_toArray, List.set_cons_zero, List.set_cons_succ]
      refine wpAnyL_take 4 (v := ?_) rfl (by kernel_rfl) (by kernel_rfl) (by kernel_rfl) (by kernel_rfl) (fun _ _ _ h => h) (Or.inl ⟨by rfl, ?_⟩) (by assumption) ?_
      rotate_left
      · (intro w hSw; (try dsimp only at hSw); go_split_ands; go_simp; try (with_reducible rfl))
      simp only [Act.put, List.setIfInBounds_toArray, List.set_cons_zero, List.set_cons_succ]
      refine wpAnyL_take 5 (v := ?_) rfl (by kernel_rfl) (by kernel_rfl) (by kernel_rfl) (by kernel_rfl) (fun _ _ _ h => h) (Or.inl ⟨by rfl, ?_⟩) (by assumption) ?_
      rotate_left
      · (intro w hSw; (try dsimp only at hSw); go_split_ands; go_simp; try (with_reducible rfl))
      simp only [Act.put, List.setIfInBounds_toArray, List.set_cons_zero, List.set_cons_succ]
      refine wpAnyL_take 6 (v := ?_) rfl (by kernel_rfl) (by kernel_rfl) (by kernel_rfl) (by kernel_rfl) (fun _ _ _ h => h) (Or.inl ⟨by rfl, ?_⟩) (by assumption) ?_
      rotate_left
      · (intro w hSw; (try dsimp only at hSw); go_split_ands; go_simp; try (with_reducible rfl))
      simp only [Act.put, List.setIfInBounds_toArray, List.set_cons_zero, List.set_cons_succ]
      refine wpAnyL_take 7 (v := ?_) rfl (by kernel_rfl) (by kernel_rfl) (by kernel_rfl) (by kernel_rfl) (fun _ _ _ h => h) (Or.inl ⟨by rfl, ?_⟩) (by assumption) ?_
      rotate_left
      · (intro w hSw; (try dsimp only at hSw); go_split_ands; go_simp; try (with_reducible rfl))
      simp only [Act.put, List.setIfInBounds_toArray, List.set_cons_zero, List.set_cons_succ]
      refine wpAnyL_take 8 (v := ?_) rfl (by kernel_rfl) (by kernel_rfl) (by kernel_rfl) (by kernel_rfl) (fun _ _ _ h => h) (Or.inl ⟨by rfl, ?_⟩) (by assumption) ?_
      rotate_left
      · (intro w hSw; (try dsimp only at hSw); go_split_ands; go_simp; try (with_reducible rfl))
      simp only [Act.put, List.setIfInBounds_toArray, List.set_cons_zero, List.set_cons_succ]
      refine wpAnyL_take 9 (v := ?_) rfl (by kernel_rfl) (by kernel_rfl) (by kernel_rfl) (by kernel_rfl) (fun _ _ _ h => h) (Or.inl ⟨by rfl, ?_⟩) (by assumption) ?_
      rotate_left
      · (intro w hSw; (try dsimp only at hSw); go_split_ands; go_simp; try (with_reducible rfl))
      simp only [Act.put, List.setIfInBounds_toArray, List.set_cons_zero, List.set_cons_succ]
      refine wpAnyL_take 10 (v := ?_) rfl (by kernel_rfl) (by kernel_rfl) (by kernel_rfl) (by kernel_rfl) (fun _ _ _ h => h) (Or.inl ⟨by rfl, ?_⟩) (by assumption) ?_
      rotate_left
      · (intro w hSw; (try dsimp only at hSw); go_split_ands; go_simp; try (with_reducible rfl))
      simp only [Act.put, List.setIfInBounds_toArray, List.set_cons_zero, List.set_cons_succ]
      refine wpAnyL_take 11 (v := ?_) rfl (by kernel_rfl) (by kernel_rfl) (by kernel_rfl) (by kernel_rfl) (fun _ _ _ h => h) (Or.inl ⟨by rfl, ?_⟩) (by assumption) ?_
      rotate_left
      · (intro w hSw; (try dsimp only at hSw); go_split_ands; go_simp; try (with_reducible rfl))
      simp only [Act.put, List.setIfInBounds_toArray, List.set_cons_zero, List.set_cons_succ]
      refine wpAnyL_take 12 (v := ?_) rfl (by kernel_rfl) (by kernel_rfl) (by kernel_rfl) (by kernel_rfl) (fun _ _ _ h => h) (Or.inl ⟨by rfl, ?_⟩) (by assumption) ?_
      rotate_left
      · (intro w hSw; (try dsimp only at hSw); go_split_ands; go_simp; try (with_reducible rfl))
      simp only [Act.put, List.setIfInBounds_toArray, List.set_cons_zero, List.set_cons_succ]
      refine wpAnyL_take 13 (v := ?_) rfl (by kernel_rfl) (by kernel_rfl) (by kernel_rfl) (by kernel_rfl) (fun _ _ _ h => h) (Or.inl ⟨by rfl, ?_⟩) (by assumption) ?_
      rotate_left
      · (intro w hSw; (try dsimp only at hSw); go_split_ands; go_simp; try (with_reducible rfl))
      simp only [Act.put, List.setIfInBounds_toArray, List.set_cons_zero, List.set_cons_succ]
      refine wpAnyL_ready (rs := [14]) (by kernel_rfl) (by simp) ?_
      refine AllReadyL.cons rfl (fun K hK => ?_) ?_
      · go_simp
        refine hK.out _ _ (.inl rfl) (fun _ => ?_)
        try simp only [Act.put, List.setIfInBounds_toArray, List.set_cons_zero, List.set_cons_succ]
        refine wpAnyL_done (by kernel_rfl) ?_ _
        refine NoPanic.normal ?_
        go_wp2
        go_roundw
        case rel => exact ⟨k + 1, by omega, by go_num, by have := HR.out.setA k (gi A k + 1); rw [onesN_set (by omega)] at this; exact (show RepX _ _ _ _ _ _ _ _ _ from ⟨this.hp, this.ht, this.hs, this.ha, this.lt, this.ls, this.la, this.ne, this.bt⟩), (HK.out.drew.setCell (fun _ => .inr (.inr (.inr rfl))) _)⟩
        case measure => simp [intOf]; omega
      exact AllReadyL.nil
    · obtain rfl : k = 1024 := by omega
      have e1 : onesN A 1024 = ones A := by simp [onesN, ← hlA]
      go_wp2
      go_end0
      exact ⟨rfl, by have := HR.out; rw [e1] at this; exact this, HK.out⟩

def rbeginE (T S A : List Int) (most f t : Int) : Int :=
  if frameR f = false ∨ frameR t = false then 3 else if f = t then 2 else if (rfind T S A f).isSome = true ∨ (rfind T S A t).isSome = true then 7 else if most ≤ rlenN S S.length then 13 else 0
def rbeginT (T S A : List Int) (most f t : Int) : List Int := if rbeginE T S A most f t = 0 then T.set f.toNat (t + 1) else T
def rbeginS (T S A : List Int) (most f t : Int) : List Int := if rbeginE T S A most f t = 0 then S.set f.toNat 1 else S
def rbeginA (T S A : List Int) (most f t : Int) : List Int := if rbeginE T S A most f t = 0 then A.set f.toNat 0 else A

theorem rlen_q {w : World} {p t s a : Nat} {most : Int} {T S A : List Int} (h : RepX w p t s a most T S A) :
    Calls Try.prog 40 #[.pointer (some ⟨p, 0, none⟩)] w fun e w' => e = .returned (.int .i64 (rlenN S S.length)) ∧ w' = w :=
  (rlen_any h).mono fun _ _ h => ⟨h.1, h.2.symm⟩

set_option maxRecDepth 100000 in
set_option maxHeartbeats 2000000 in
theorem rbegin_any {w : World} {p t s a : Nat} {most : Int} {T S A : List Int} (f g : Int) (h : RepX w p t s a most T S A) :
    Calls Try.prog 29 #[.pointer (some ⟨p, 0, none⟩), .int .i64 f, .int .i64 g] w fun e w' => e = .returned (.int .i64 (rbeginE T S A most f g)) ∧
      RepX w' p t s a most (rbeginT T S A most f g) (rbeginS T S A most f g) (rbeginA T S A most f g) ∧ Keep (XB p t s a) w w' := by
  by_cases h1 : frameR f = false ∨ frameR g = false
  · have e1 : Hid (rbeginE T S A most f g = 3) := by unfold Hid rbeginE; rw [if_pos h1]
    have close : ∀ w', Keep (XB p t s a) w w' → RepX w' p t s a most T S A → RepX w' p t s a most (rbeginT T S A most f g) (rbeginS T S A most f g) (rbeginA T S A most f g) := by
      intro w' _ h; unfold rbeginT rbeginS rbeginA; rw [e1.out]; exact h
    rcases h1 with h1 | h1
    · go_enter Try.func29, Try.ntmps29
      go_wp2_with (go_at_call 37; refine (rframe_any _ _).mono ?_; rintro e w1 ⟨rfl, rfl⟩)
      go_ret
      exact ⟨ret_int e1.out.symm, close _ (Keep.refl _ _) h, Keep.refl _ _⟩
    · cases h2 : frameR f
      all_goals
        go_enter Try.func29, Try.ntmps29
        go_wp2_with (go_at_call 37; refine (rframe_any _ _).mono ?_; rintro e w1 ⟨rfl, rfl⟩)
        go_ret
        exact ⟨ret_int e1.out.symm, close _ (Keep.refl _ _) h, Keep.refl _ _⟩
  · have hf : frameR f = true := by simpa using fun h => h1 (.inl h)
    have hg : frameR g = true := by simpa using fun h => h1 (.inr h)
    by_cases h2 : f = g
    · have e1 : Hid (rbeginE T S A most f g = 2) := by unfold Hid rbeginE; rw [if_neg h1, if_pos h2]
      have h2' : (f == g) = true := by simpa using h2
      clear h1 h2
      go_enter Try.func29, Try.ntmps29
      go_wp2_with (go_at_call 37; refine (rframe_any _ _).mono ?_; rintro e w1 ⟨rfl, rfl⟩)
      go_ret
      exact ⟨ret_int e1.out.symm, by unfold rbeginT rbeginS rbeginA; rw [e1.out]; exact h, Keep.refl _ _⟩
    · have h2' : (f == g) = false := by simpa using h2
      by_cases h3 : (rfind T S A f).isSome = true ∨ (rfind T S A g).isSome = true
      · have e1 : Hid (rbeginE T S A most f g = 7) := by unfold Hid rbeginE; rw [if_neg h1, if_neg h2, if_pos h3]
        have h3' : ((rfind T S A f).isSome || (rfind T S A g).isSome) = true := by simpa using h3
        clear h1 h2 h3
        cases x1 : (rfind T S A f).isSome
        all_goals
          (try (have x2 : (rfind T S A g).isSome = true := by simpa [x1] using h3'))
          clear h3'
          go_enter Try.func29, Try.ntmps29
          go_wp2_with (first | (go_at_call 37; refine (rframe_any _ _).mono ?_; rintro e w1 ⟨rfl, rfl⟩) | (go_at_call 11; refine (rfind_any g H1.out).mono ?_; unfold mvV; rintro e w2 ⟨rfl, hk2⟩; have K2 : Hid (Keep (fun _ => False) w w2) := Keep.trans (by (repeat (first | exact K1.out | exact Keep.refl _ _ | refine Keep.drew ?_ | refine Keep.drewN ?_ _ | refine Keep.alloc ?_ _ | refine Keep.setNew ?_ (by omega) _)); done) hk2; clear hk2) | (go_at_call 11; refine (rfind_any f h).mono ?_; unfold mvV; rintro e w1 ⟨rfl, hk1⟩; have K1 := Lib.hid hk1; have H1 := Lib.hid (h.keep0 (w' := w1.alloc (.cells #[.int .i64 ((rfind T S A f).getD mv0).f, .int .i64 ((rfind T S A f).getD mv0).t, .int .i64 ((rfind T S A f).getD mv0).s, .int .i64 ((rfind T S A f).getD mv0).a] 31)) (by (repeat (first | exact hk1 | exact Keep.refl _ _ | refine Keep.drew ?_ | refine Keep.drewN ?_ _ | refine Keep.alloc ?_ _ | refine Keep.setNew ?_ (by omega) _)); done)); clear hk1))
          go_ret
          exact ⟨ret_int e1.out.symm, by unfold rbeginT rbeginS rbeginA; rw [e1.out]; exact h.keep0 (by (repeat (first | exact K2.out | exact Keep.refl _ _ | refine Keep.drew ?_ | refine Keep.drewN ?_ _ | refine Keep.alloc ?_ _ | refine Keep.setNew ?_ (by omega) _)); done), (show Keep (fun _ => False) _ _ from (by (repeat (first | exact K2.out | exact Keep.refl _ _ | refine Keep.drew ?_ | refine Keep.drewN ?_ _ | refine Keep.alloc ?_ _ | refine Keep.setNew ?_ (by omega) _)); done)).mono (fun _ _ h => h.elim)⟩
      · have x1 : (rfind T S A f).isSome = false := by simpa using fun h => h3 (.inl h)
        have x2 : (rfind T S A g).isSome = false := by simpa using fun h => h3 (.inr h)
        by_cases h4 : most ≤ rlenN S S.length
        · have e1 : Hid (rbeginE T S A most f g = 13) := by unfold Hid rbeginE; rw [if_neg h1, if_neg h2, if_neg h3, if_pos h4]
          clear h1 h2 h3
          go_enter Try.func29, Try.ntmps29
          go_wp2_with (first | (go_at_call 37; refine (rframe_any _ _).mono ?_; rintro e w1 ⟨rfl, rfl⟩) | (go_at_call 11; refine (rfind_any g H1.out).mono ?_; unfold mvV; rintro e w2 ⟨rfl, hk2⟩; have K2 : Hid (Keep (fun _ => False) w w2) := Keep.trans (by (repeat (first | exact K1.out | exact Keep.refl _ _ | refine Keep.drew ?_ | refine Keep.drewN ?_ _ | refine Keep.alloc ?_ _ | refine Keep.setNew ?_ (by omega) _)); done) hk2; clear hk2) | (go_at_call 11; refine (rfind_any f h).mono ?_; unfold mvV; rintro e w1 ⟨rfl, hk1⟩; have K1 := Lib.hid hk1; have H1 := Lib.hid (h.keep0 (w' := w1.alloc (.cells #[.int .i64 ((rfind T S A f).getD mv0).f, .int .i64 ((rfind T S A f).getD mv0).t, .int .i64 ((rfind T S A f).getD mv0).s, .int .i64 ((rfind T S A f).getD mv0).a] 31)) (by (repeat (first | exact hk1 | exact Keep.refl _ _ | refine Keep.drew ?_ | refine Keep.drewN ?_ _ | refine Keep.alloc ?_ _ | refine Keep.setNew ?_ (by omega) _)); done)); clear hk1))
          have HR2 := Lib.hid (h.keep0 (w' := w2.alloc (.cells #[.int .i64 ((rfind T S A g).getD mv0).f, .int .i64 ((rfind T S A g).getD mv0).t, .int .i64 ((rfind T S A g).getD mv0).s, .int .i64 ((rfind T S A g).getD mv0).a] 31)) (by (repeat (first | exact K2.out | exact Keep.refl _ _ | refine Keep.drew ?_ | refine Keep.drewN ?_ _ | refine Keep.alloc ?_ _ | refine Keep.setNew ?_ (by omega) _)); done))
          have c0 := HR2.out.c0
          go_quiet ((go_at_call 40; exact Calls.quiet_of_same (rlen_q (by exact HR2.out.keep0 (by (repeat (first | exact Keep.refl _ _ | exact Keep.refl _ _ | refine Keep.drew ?_ | refine Keep.drewN ?_ _ | refine Keep.alloc ?_ _ | refine Keep.setNew ?_ (by omega) _)); done)))))
          go_wp2
          go_ret
          exact ⟨ret_int e1.out.symm, by unfold rbeginT rbeginS rbeginA; rw [e1.out]; exact h.keep0 (by (repeat (first | exact K2.out | exact Keep.refl _ _ | refine Keep.drew ?_ | refine Keep.drewN ?_ _ | refine Keep.alloc ?_ _ | refine Keep.setNew ?_ (by omega) _)); done), (show Keep (fun _ => False) _ _ from (by (repeat (first | exact K2.out | exact Keep.refl _ _ | refine Keep.drew ?_ | refine Keep.drewN ?_ _ | refine Keep.alloc ?_ _ | refine Keep.setNew ?_ (by omega) _)); done)).mono (fun _ _ h => h.elim)⟩
        · have e1 : Hid (rbeginE T S A most f g = 0) := by unfold Hid rbeginE; rw [if_neg h1, if_neg h2, if_neg h3, if_neg h4]
          clear h1 h2 h3
          obtain ⟨f, rfl⟩ := Int.eq_ofNat_of_zero_le (frameR_iff.1 hf).1
          have hf1 : f < 1024 := by have := (frameR_iff.1 hf).2; omega
          obtain ⟨g, rfl⟩ := Int.eq_ofNat_of_zero_le (frameR_iff.1 hg).1
          have hg1 : g < 1024 := by have := (frameR_iff.1 hg).2; omega
          obtain ⟨n1, n2, n3, n4, n5, n6⟩ := h.ne
          have hw1 : IntKind.i64.wrap ((g : Int) + 1) = (g : Int) + 1 := IntWalk.i64_in _ (by omega)
          go_enter Try.func29, Try.ntmps29
          go_wp2_with (first | (go_at_call 37; refine (rframe_any _ _).mono ?_; rintro e w1 ⟨rfl, rfl⟩) | (go_at_call 11; refine (rfind_any g H1.out).mono ?_; unfold mvV; rintro e w2 ⟨rfl, hk2⟩; have K2 : Hid (Keep (fun _ => False) w w2) := Keep.trans (by (repeat (first | exact K1.out | exact Keep.refl _ _ | refine Keep.drew ?_ | refine Keep.drewN ?_ _ | refine Keep.alloc ?_ _ | refine Keep.setNew ?_ (by omega) _)); done) hk2; clear hk2) | (go_at_call 11; refine (rfind_any f h).mono ?_; unfold mvV; rintro e w1 ⟨rfl, hk1⟩; have K1 := Lib.hid hk1; have H1 := Lib.hid (h.keep0 (w' := w1.alloc (.cells #[.int .i64 ((rfind T S A f).getD mv0).f, .int .i64 ((rfind T S A f).getD mv0).t, .int .i64 ((rfind T S A f).getD mv0).s, .int .i64 ((rfind T S A f).getD mv0).a] 31)) (by (repeat (first | exact hk1 | exact Keep.refl _ _ | refine Keep.drew ?_ | refine Keep.drewN ?_ _ | refine Keep.alloc ?_ _ | refine Keep.setNew ?_ (by omega) _)); done)); clear hk1))
          have HR2 := Lib.hid (h.keep0 (w' := w2.alloc (.cells #[.int .i64 ((rfind T S A g).getD mv0).f, .int .i64 ((rfind T S A g).getD mv0).t, .int .i64 ((rfind T S A g).getD mv0).s, .int .i64 ((rfind T S A g).getD mv0).a] 31)) (by (repeat (first | exact K2.out | exact Keep.refl _ _ | refine Keep.drew ?_ | refine Keep.drewN ?_ _ | refine Keep.alloc ?_ _ | refine Keep.setNew ?_ (by omega) _)); done))
          have c0 := HR2.out.c0
          go_quiet ((go_at_call 40; exact Calls.quiet_of_same (rlen_q (by exact HR2.out.keep0 (by (repeat (first | exact Keep.refl _ _ | exact Keep.refl _ _ | refine Keep.drew ?_ | refine Keep.drewN ?_ _ | refine Keep.alloc ?_ _ | refine Keep.setNew ?_ (by omega) _)); done)))))
          obtain ⟨w5, hw5⟩ : ∃ x, (w2.alloc (.cells #[.int .i64 ((rfind T S A g).getD mv0).f, .int .i64 ((rfind T S A g).getD mv0).t, .int .i64 ((rfind T S A g).getD mv0).s, .int .i64 ((rfind T S A g).getD mv0).a] 31)).drewN nq = x := ⟨_, rfl⟩
          have KW : Hid (Keep (fun _ => False) w w5) := by rw [← hw5]; exact (by (repeat (first | exact K2.out | exact Keep.refl _ _ | refine Keep.drew ?_ | refine Keep.drewN ?_ _ | refine Keep.alloc ?_ _ | refine Keep.setNew ?_ (by omega) _)); done)
          rw [hw5]
          clear hw5 H1 K1 K2 HR2 c0
          have HR5 := Lib.hid (h.keep0 KW.out)
          have c1 := HR5.out.c1
          have c2 := HR5.out.c2
          have c3 := HR5.out.c3
          have hc : w5.cell? ⟨s, f, none⟩ = some (.int .i64 (gi S f)) := cell_rowI HR5.out.hs (by rw [h.ls]; omega)
          have hz : w5.frozen? ⟨s, f, none⟩ = false := frozen_rowI HR5.out.hs
          have hcT : w5.cell? ⟨t, f, none⟩ = some (.int .i64 (gi T f)) := cell_rowI HR5.out.ht (by rw [h.lt]; omega)
          have hzT : w5.frozen? ⟨t, f, none⟩ = false := frozen_rowI HR5.out.ht
          have hcA : w5.cell? ⟨a, f, none⟩ = some (.int .i64 (gi A f)) := cell_rowI HR5.out.ha (by rw [h.la]; omega)
          have hzA : w5.frozen? ⟨a, f, none⟩ = false := frozen_rowI HR5.out.ha
          go_wp2
          go_ret
          exact ⟨ret_int e1.out.symm, by unfold rbeginT rbeginS rbeginA; rw [e1.out]; exact ((HR5.out.setT f (g + 1) (by omega)).set f 1).setA f 0, (((KW.out.mono (fun _ _ h => h.elim)).setCell (fun _ => .inr (.inl rfl)) _).setCell (fun _ => .inr (.inr (.inl rfl))) _).setCell (fun _ => .inr (.inr (.inr rfl))) _⟩

theorem make44 (n : Nat) (h : n ≤ 100000) (w : World) : (Instr.makeSlice 44 (.int .i64 (n : Int)) (.int .i64 (n : Int))).run Try.prog w = .ok (.slice (some ⟨w.heap.size, 0, none⟩) n n) (w.alloc (rowI (List.replicate n 0))) := by
  rw [run_make_row' 44 3 (.int .i64 0) 8 Try.underlying44 info3 rfl .i64 .i64 n (by omega) (by omega)]
  have e : madeCells #[Value.int .i64 0] n = (List.map (Value.int .i64) (List.replicate n 0)).toArray := by
    rw [List.map_replicate, ← toList_madeCells_one]
  rw [e]; rfl

set_option maxHeartbeats 400000 in
theorem rnew_no (n : Int) (w : World) (h : n < 1 ∨ 64 < n) :
    Calls Try.prog 28 #[.int .i64 n] w fun e w' => e = .returned (.tuple #[.pointer none, .int .i64 2]) ∧ w = w' := by
  rcases h with h | h
  all_goals
    go_enter Try.func28, Try.ntmps28
    go_wp2
    go_ret2
    exact ⟨rfl, rfl⟩

theorem row_len (n : Nat) : (List.replicate n (0 : Int)).length = n := List.length_replicate
theorem gi_rep0 (n i : Nat) : gi (List.replicate n 0) i = 0 := by
  unfold gi
  rw [List.getD_eq_getElem?_getD, List.getElem?_replicate]
  split <;> rfl

theorem alloc3 (w : World) (R : Obj) (o : Obj) (i : Nat) (h1 : w.heap.size ≤ i) (h2 : i < w.heap.size + 3) : ((((w.alloc R).alloc R).alloc R).alloc o).heap[i]? = some R := by
  simp only [heap_alloc_at, World.size_alloc]
  rw [if_neg (by omega)]
  by_cases e1 : i = w.heap.size + 1 + 1
  · rw [if_pos e1]
  · rw [if_neg e1]
    by_cases e2 : i = w.heap.size + 1
    · rw [if_pos e2]
    · rw [if_neg e2, if_pos (by omega)]

theorem rnew_close (w : World) (R : Obj) (hR : rowI (List.replicate 1024 0) = R) (n : Int) (t s a : Nat) (ht : w.heap.size ≤ t ∧ t < w.heap.size + 3) (hs : w.heap.size ≤ s ∧ s < w.heap.size + 3) (ha : w.heap.size ≤ a ∧ a < w.heap.size + 3)
    (hn : t ≠ s ∧ t ≠ a ∧ s ≠ a) :
    RepX ((((w.alloc R).alloc R).alloc R).alloc (.cells #[.int .i64 n, .slice (some ⟨t, 0, none⟩) 1024 1024, .slice (some ⟨s, 0, none⟩) 1024 1024, .slice (some ⟨a, 0, none⟩) 1024 1024] 60)).drew (w.heap.size + 1 + 1 + 1) t s a n (List.replicate 1024 0) (List.replicate 1024 0) (List.replicate 1024 0) ∧
      (w.heap.size ≤ w.heap.size + 1 + 1 + 1 ∧ w.heap.size ≤ t ∧ w.heap.size ≤ s ∧ w.heap.size ≤ a) ∧
      Keep (fun _ => False) w ((((w.alloc R).alloc R).alloc R).alloc (.cells #[.int .i64 n, .slice (some ⟨t, 0, none⟩) 1024 1024, .slice (some ⟨s, 0, none⟩) 1024 1024, .slice (some ⟨a, 0, none⟩) 1024 1024] 60)).drew := by
  refine ⟨⟨?_, ?_, ?_, ?_, row_len _, row_len _, row_len _, ⟨by omega, by omega, by omega, hn.1, hn.2.1, hn.2.2⟩, fun i hi => by rw [gi_rep0]; omega⟩, ⟨by omega, ht.1, hs.1, ha.1⟩, (by (repeat (first | exact Keep.refl _ _ | exact Keep.refl _ _ | refine Keep.drew ?_ | refine Keep.drewN ?_ _ | refine Keep.alloc ?_ _ | refine Keep.setNew ?_ (by omega) _)); done)⟩
  · rw [heap_drew, heap_alloc_at, if_pos (by simp)]
  · rw [heap_drew, hR]; exact alloc3 w R _ t ht.1 ht.2
  · rw [heap_drew, hR]; exact alloc3 w R _ s hs.1 hs.2
  · rw [heap_drew, hR]; exact alloc3 w R _ a ha.1 ha.2

set_option maxRecDepth 100000 in
set_option maxHeartbeats 2000000 in
theorem rnew_yes (n : Int) (w : World) (h1 : 1 ≤ n) (h2 : n ≤ 64) :
    Calls Try.prog 28 #[.int .i64 n] w fun e w' => ∃ p t s a, e = .returned (.tuple #[.pointer (some ⟨p, 0, none⟩), .int .i64 0]) ∧
      RepX w' p t s a n (List.replicate 1024 0) (List.replicate 1024 0) (List.replicate 1024 0) ∧ (w.heap.size ≤ p ∧ w.heap.size ≤ t ∧ w.heap.size ≤ s ∧ w.heap.size ≤ a) ∧ Keep (fun _ => False) w w' := by
  obtain ⟨R, hR⟩ : ∃ R, rowI (List.replicate 1024 0) = R := ⟨_, rfl⟩
  have hm : ∀ w, (Instr.makeSlice 44 (.int .i64 1024) (.int .i64 1024)).run Try.prog w = .ok (.slice (some ⟨w.heap.size, 0, none⟩) 1024 1024) (w.alloc R) := by
    intro w
    rw [← hR]
    exact make44 1024 (by omega) w
  have HR := Lib.hid hR
  clear hR
  go_enter Try.func28, Try.ntmps28
  go_wp2
  go_region
  all_goals
    go_wp2
    go_ret2
    exact ⟨_, _, _, _, rfl, rnew_close w R HR.out n _ _ _ (by omega) (by omega) (by omega) (by omega)⟩

end Go.Proofs.Ytnlalihapmlceaa
