/- Moves: the calls that change it. -/
import Derived.Test.YtnlalihapmlceaaA
import Derived.Deep.RegionHeld3
import Derived.Deep.RegionLaw
import Derived.IntWalk
set_option linter.unusedVariables false
set_option linter.unusedSimpArgs false
namespace Go.Proofs.Ytnlalihapmlceaa
open Go.RowKit Go.Own

def meetM (L : List Mv) (f : Int) : Int := if ofI L f = -1 then 0 else (L.getD (ofI L f).toNat mv0).s

theorem ofN_cases (L : List Mv) (f : Int) : ∀ n i, i + n = L.length → (ofN L f i n = -1 ∧ ∀ j, i ≤ j → (h : j < L.length) → L[j].f ≠ f) ∨ (∃ k : Nat, ofN L f i n = k ∧ i ≤ k ∧ ∃ h : k < L.length, L[k].f = f) := by
  intro n
  induction n with
  | zero => intro i h; exact .inl ⟨rfl, fun j hj hl => by omega⟩
  | succ n ih =>
    intro i h
    by_cases c : L[i].f = f
    · exact .inr ⟨i, ofN_hit (by omega) (by omega) c, Nat.le_refl _, by omega, c⟩
    · rw [ofN_miss (by omega) (by omega) c, Nat.succ_sub_one]
      rcases ih (i + 1) (by omega) with ⟨h1, h2⟩ | ⟨k, h1, h2, h3, h4⟩
      · refine .inl ⟨h1, fun j hj hl => ?_⟩
        by_cases e : j = i
        · subst e; exact c
        · exact h2 j (by omega) hl
      · exact .inr ⟨k, h1, by omega, h3, h4⟩
theorem ofI_cases (L : List Mv) (f : Int) : (ofI L f = -1 ∧ ∀ j, (h : j < L.length) → L[j].f ≠ f) ∨ (∃ k : Nat, ofI L f = k ∧ ∃ h : k < L.length, L[k].f = f) := by
  rcases ofN_cases L f L.length 0 (by omega) with ⟨h1, h2⟩ | ⟨k, h1, _, h3, h4⟩
  · exact .inl ⟨h1, fun j h => h2 j (by omega) h⟩
  · exact .inr ⟨k, h1, h3, h4⟩

theorem RepM.keep {S : Nat → Prop} {w w' : World} {B p : Nat} {v : Value} {most : Int} {L : List Mv} (h : RepM w B p v most L) (k : Keep S w w') (hp : ¬ S p) (hv : ∀ x, v.ownBlock = some x → ¬ S x) : RepM w' B p v most L :=
  ⟨(k.block p (block_lt h.hp) hp).trans h.hp, h.hv.keep k hv, h.ne, h.hl, h.m1, h.m2⟩

set_option maxHeartbeats 400000 in
theorem meet_nil (f : Int) (w : World) :
    Calls Try.prog 15 #[.pointer none, .int .i64 f] w fun e w' => e = .returned (.int .i64 0) ∧ Keep (fun _ => False) w w' := by
  go_enter Try.func15, Try.ntmps15
  go_wp2_with (go_at_call 33; refine (of_nil _ _).mono ?_; rintro e w1 ⟨rfl, rfl⟩)
  go_ret
  exact ⟨rfl, Keep.refl _ _⟩

set_option maxHeartbeats 400000 in
theorem meet_any (B p : Nat) (v : Value) (most : Int) (L : List Mv) (f : Int) (w : World) (hR : RepM w B p v most L) :
    Calls Try.prog 15 #[.pointer (some ⟨p, 0, none⟩), .int .i64 f] w fun e w' => e = .returned (.int .i64 (meetM L f)) ∧ Keep (fun _ => False) w w' := by
  rcases ofI_cases L f with ⟨h1, h2⟩ | ⟨k, h1, hk, h3⟩
  · have H1 := Lib.hid h1
    clear h1
    go_enter Try.func15, Try.ntmps15
    go_wp2_with (go_at_call 33; refine (of_any B p v most L f _ hR).mono ?_; rw [H1.out]; rintro e w1 ⟨rfl, hk⟩)
    go_ret
    exact ⟨ret_int (by unfold meetM; rw [if_pos H1.out]), hk⟩
  · have H1 := Lib.hid h1
    clear h1
    obtain ⟨g, cap, rfl, hBg, hcap, hgl⟩ := hR.hv.form (by intro e; subst e; simp at hk)
    have hl := hR.hl
    go_enter Try.func15, Try.ntmps15
    go_wp2_with (go_at_call 33; refine (of_any B p _ most L f _ hR).mono ?_; rw [H1.out]; rintro e w1 ⟨rfl, hk1⟩; have hc1 := (hR.keep hk1 id (fun _ _ => id)).c1; obtain ⟨c0, c1, c2, c3⟩ := mv_cells (hR.hv.keep hk1 (fun _ _ => id)) hk)
    go_ret
    exact ⟨ret_int (by unfold meetM; rw [if_neg (by rw [H1.out]; omega), H1.out]; simp [hk]), hk1⟩

/-- Copy: the error, the moves behind it. -/
def copyE (L : List Mv) (f : Int) : Int := if ofI L f = -1 then 6 else if meetM L f = 2 then 5 else 0
def copyL (L : List Mv) (f : Int) : List Mv := if copyE L f = 0 then L.set (ofI L f).toNat { L.getD (ofI L f).toNat mv0 with s := 2 } else L

set_option maxHeartbeats 400000 in
theorem copy_nil (f : Int) (w : World) :
    Calls Try.prog 18 #[.pointer none, .int .i64 f] w fun e w' => e = .returned (.int .i64 1) ∧ Keep (fun _ => False) w w' := by
  go_enter Try.func18, Try.ntmps18
  go_wp2_with (go_at_call 33; refine (of_nil _ _).mono ?_; rintro e w1 ⟨rfl, rfl⟩)
  go_ret
  exact ⟨rfl, Keep.refl _ _⟩

set_option maxHeartbeats 1000000 in
theorem copy_any (B p : Nat) (v : Value) (most : Int) (L : List Mv) (f : Int) (w : World) (hR : RepM w B p v most L) :
    Calls Try.prog 18 #[.pointer (some ⟨p, 0, none⟩), .int .i64 f] w fun e w' => e = .returned (.int .i64 (copyE L f)) ∧ RepM w' B p v most (copyL L f) ∧ Keep (fun x => x = p ∨ v.ownBlock = some x) w w' := by
  rcases ofI_cases L f with ⟨h1, h2⟩ | ⟨k, h1, hk, h3⟩
  · have H1 := Lib.hid h1
    have e1 : Hid (copyE L f = 6) := by unfold Hid copyE; rw [if_pos h1]
    clear h1
    go_enter Try.func18, Try.ntmps18
    go_wp2_with (go_at_call 33; refine (of_any B p v most L f _ hR).mono ?_; rw [H1.out]; rintro e w1 ⟨rfl, hk⟩)
    go_ret
    refine ⟨ret_int e1.out.symm, ?_, hk.mono (fun _ _ h => h.elim)⟩
    unfold copyL; rw [if_neg (by rw [e1.out]; decide)]; exact hR.keep hk id (fun _ _ => id)
  · have hm : Hid (meetM L f = L[k].s) := by unfold Hid meetM; rw [if_neg (by rw [h1]; omega), h1]; simp [hk]
    have H1 := Lib.hid h1
    clear h1
    obtain ⟨g, cap, rfl, hBg, hcap, hgl⟩ := hR.hv.form (by intro e; subst e; simp at hk)
    have hl := hR.hl
    have hne := hR.ne
    simp [Value.ownBlock] at hne
    by_cases hs : L[k].s = 2
    · have e1 : Hid (copyE L f = 5) := by unfold Hid copyE; rw [if_neg (by rw [H1.out]; omega), if_pos (by rw [hm.out]; exact hs)]
      have hs' : (L[k].s == 2) = true := by simp [hs]
      clear hs
      go_enter Try.func18, Try.ntmps18
      go_wp2_with (go_at_call 33; refine (of_any B p _ most L f _ hR).mono ?_; rw [H1.out]; rintro e w1 ⟨rfl, hk1⟩; have hc1 := (hR.keep hk1 id (fun _ _ => id)).c1; obtain ⟨c0, c1, c2, c3⟩ := mv_cells (hR.hv.keep hk1 (fun _ _ => id)) hk)
      go_ret
      refine ⟨ret_int e1.out.symm, ?_, hk1.mono (fun _ _ h => h.elim)⟩
      unfold copyL; rw [if_neg (by rw [e1.out]; decide)]; exact hR.keep hk1 id (fun _ _ => id)
    · have e1 : Hid (copyE L f = 0) := by unfold Hid copyE; rw [if_neg (by rw [H1.out]; omega), if_neg (by rw [hm.out]; exact hs)]
      have hs' : (L[k].s == 2) = false := by simpa using hs
      clear hs
      go_enter Try.func18, Try.ntmps18
      go_wp2_with (go_at_call 33; refine (of_any B p _ most L f _ hR).mono ?_; rw [H1.out]; rintro e w1 ⟨rfl, hk1⟩; have hRk := Lib.hid (hR.keep hk1 id (fun _ _ => id)); have hc1 := hRk.out.c1; obtain ⟨c0, c1, c2, c3⟩ := mv_cells hRk.out.hv hk; have hz := hRk.out.hv.frozen (k * 4 + 1 + 1))
      go_ret
      refine ⟨ret_int e1.out.symm, ?_, (hk1.mono (fun _ _ h => h.elim)).setCell (fun _ => .inr rfl) _⟩
      unfold copyL; rw [if_pos e1.out, H1.out]
      refine ⟨?_, ?_, hR.ne, by simpa using hR.hl, hR.m1, hR.m2⟩
      · rw [heap_setCell_ne (by simp; omega)]; exact hRk.out.hp
      · have := hRk.out.hv.set (i := k) (j := 2) (x := { L[k] with s := 2 }) (u := .int .i64 2) hk (by decide) rfl
        simp [hk]; exact this

/-- The call takes a move out. -/
def endL (L : List Mv) (k : Nat) : List Mv := L.take k ++ L.drop (k + 1)
theorem endL_length {L : List Mv} {k : Nat} (h : k < L.length) : (endL L k).length = L.length - 1 := by simp [endL]; omega

theorem end_close {w w2 : World} {B p k : Nat} {v : Value} {most : Int} {L : List Mv} {a2 : Option Addr} {l2 c2 : Nat} (hR : RepM w B p v most L) (hk : k < L.length) (hpl : p < w.heap.size) (hB : B ≤ w.heap.size)
    (HK2 : Keep (fun _ => False) w w2) (HO2 : w2.ownsRow w.heap.size 31 mvE.k (.slice a2 l2 c2) (0 + k + (L.length - (k + 1))) ([] ++ mvE.cs (L.take k) ++ mvE.cs (L.drop (k + 1)))) :
    ∃ v', Ending.returned (.int .i64 L[k].t) = .returned (.int .i64 L[k].t) ∧ RepM (w2.setCell ⟨p, 1, none⟩ (.slice a2 l2 c2)) B p v' most (endL L k) ∧ Keep (fun x => x = p) w (w2.setCell ⟨p, 1, none⟩ (.slice a2 l2 c2)) ∧
      (∀ x, v'.ownBlock = some x → w.heap.size ≤ x) := by
  have hl := hR.hl
  have hO : OwnL mvE w2 B 31 (.slice a2 l2 c2) (endL L k) := by
    have := HO2
    rw [Nat.zero_add, List.nil_append, ← mvE.cs_append] at this
    have h2 := ownsRow_base this (C := B) (fun x hx => by have := (HO2.lt x hx).1; omega)
    unfold OwnL endL
    rw [List.length_append, List.length_take, List.length_drop, Nat.min_eq_left (Nat.le_of_lt hk)]
    exact h2
  have hlt2 := HO2.lt
  refine ⟨_, rfl, ⟨?_, ?_, ?_, ?_, hR.m1, hR.m2⟩, (HK2.mono (T := fun x => x = p) (fun _ _ h => h.elim)).setCell (fun _ => rfl) _, fun x hx => (hlt2 x hx).1⟩
  · rw [heap_setCell_eq ((HK2.block p hpl id).trans hR.hp)]; simp
  · exact hO.keep ((Keep.refl (fun x => x = p) w2).setCell (fun _ => rfl) _) (fun x hx => by have := (hlt2 x hx).1; omega)
  · intro e; have := (hlt2 p e).1; omega
  · rw [endL_length hk]; omega

set_option maxHeartbeats 1000000 in
theorem end_any (B p k : Nat) (v : Value) (most : Int) (L : List Mv) (w : World) (hB : B ≤ w.heap.size) (hR : RepM w B p v most L) (hk : k < L.length) :
    Calls Try.prog 36 #[.pointer (some ⟨p, 0, none⟩), .int .i64 k] w fun e w' => ∃ v', e = .returned (.int .i64 L[k].t) ∧ RepM w' B p v' most (endL L k) ∧ Keep (fun x => x = p) w w' ∧
      (∀ x, v'.ownBlock = some x → w.heap.size ≤ x) := by
  obtain ⟨g, cap, rfl, hBg, hcap, hgl⟩ := hR.hv.form (by intro e; subst e; simp at hk)
  have hl := hR.hl
  have hne := hR.ne
  simp [Value.ownBlock] at hne
  have hpl := block_lt hR.hp
  have hc1 := hR.c1
  obtain ⟨c0, c1, c2, c3⟩ := mv_cells hR.hv hk
  have k0 : (0 : Int) ≤ k := by omega
  have k1 : (k : Int) ≤ cap := by omega
  have k2 : (k : Int) + 1 ≤ cap := by omega
  have k3 : (k : Int) + 1 ≤ L.length := by omega
  have fz : w.frozen? ⟨p, 1, none⟩ = false := frozen_block hR.hp
  have hw1 : IntKind.i64.wrap (↑k + 1) = ↑k + 1 := IntWalk.i64_in _ (by omega)
  obtain ⟨vlo, hlo, hrlo⟩ := sl_lo et36 hR.hv (Nat.le_of_lt hk)
  obtain ⟨vhi, hhi, hrhi⟩ := sl_hi et36 hR.hv (i := k + 1) (by omega) (↑k + 1) (by simp)
  have RLO := Lib.hid hrlo
  have RHI := Lib.hid hrhi
  clear hrlo hrhi
  go_enter Try.func36, Try.ntmps36
  go_wp2
  go_region_law
    (first | (refine step_app et36 (by rfl) (.tmp 15) (.tmp 21) (by rfl) w.heap.size (.slice (some ⟨w.heap.size, 0, none⟩) 0 0) 0 [] (by rfl) (own_empty_at (heap_alloc_new w _) (Nat.le_refl _)) vlo k (mvE.cs (L.take k)) (by rfl) (RLO.out.keep (S := fun _ => False) (by (repeat (first | exact Keep.refl _ _ | exact Keep.refl _ _ | refine Keep.drew ?_ | refine Keep.drewN ?_ _ | refine Keep.alloc ?_ _ | refine Keep.setNew ?_ (by omega) _)); done) (fun _ _ _ _ => id)) (mvE.cs_one_cell _) (by unfold maxLen; omega) (by omega) (by simp) ?_; intro v1 w1 hown1 hgrow1; have HK1 : Hid (Keep (fun _ => False) w w1) := Keep.grown (by (repeat (first | exact Keep.refl _ _ | exact Keep.refl _ _ | refine Keep.drew ?_ | refine Keep.drewN ?_ _ | refine Keep.alloc ?_ _ | refine Keep.setNew ?_ (by omega) _)); done) hgrow1 (fun x h1 h2 => by simp [Value.ownBlock] at h1; omega); obtain ⟨hz1, hz2⟩ := keepS2 HK1.out hpl id hc1 fz; have HO1 := Lib.hid hown1; clear hown1 hgrow1)
           | (refine step_app et36 (by rfl) (.tmp 22) (.tmp 29) (by rfl) w.heap.size v1 _ _ (by rfl) HO1.out vhi (L.length - (k + 1)) (mvE.cs (L.drop (k + 1))) (by rfl) (RHI.out.keep HK1.out (fun _ _ _ _ => id)) (mvE.cs_one_cell _) (by unfold maxLen; omega) (by omega) (by have := HK1.out.size; omega) ?_; intro v2 w2 hown2 hgrow2; obtain ⟨a2, l2, c2, rfl⟩ := own_slice hown2; have HK2 : Hid (Keep (fun _ => False) w w2) := Keep.grown HK1.out hgrow2 (fun x h1 h2 => by have := (HO1.out.lt x h1).1; omega); obtain ⟨hz3, hz4⟩ := keepS2 HK2.out hpl id hc1 fz; have HO2 := Lib.hid hown2; clear hown2 hgrow2))
  all_goals
    go_wp2
    go_ret
    exact end_close hR hk hpl hB HK2.out HO2.out

end Go.Proofs.Ytnlalihapmlceaa
