/- Moves: Begin. -/
import Derived.Test.YtnlalihapmlceaaC
import Derived.Test.YtnlalihapmlceaaReg
import Derived.Deep.QuietTactic
import Derived.BigQuiet
set_option linter.unusedVariables false
set_option linter.unusedSimpArgs false
namespace Go.Proofs.Ytnlalihapmlceaa
open Go.RowKit Go.Own

def frameB (f : Int) : Bool := decide (0 ≤ f ∧ f < 1024)

set_option maxHeartbeats 400000 in
theorem frame_any (f : Int) (w : World) : Calls Try.prog 34 #[.int .i64 f] w fun e w' => e = .returned (.bool (frameB f)) ∧ w = w' := by
  go_enter Try.func34, Try.ntmps34
  go_wp2
  all_goals
    go_ret
    exact ⟨ret_bool (by simp [frameB] <;> omega), rfl⟩

set_option maxHeartbeats 400000 in
theorem taken_any (b B p : Nat) (v : Value) (most : Int) (L : List Mv) (f : Int) (w : World) (hb : w.cell? ⟨b, 0, none⟩ = some (.pointer (some ⟨p, 0, none⟩))) (hR : RepM w B p v most L) :
    Calls Try.prog 35 #[.int .i64 f, .pointer (some ⟨b, 0, none⟩)] w fun e w' => e = .returned (.bool (findM L f).isSome) ∧ Keep (fun _ => False) w w' := by
  go_enter Try.func35, Try.ntmps35
  go_wp2_with (go_at_call 13; refine (find_any B p v most L f _ hR).mono ?_; unfold mvV; rintro e w1 ⟨rfl, hk⟩)
  go_ret
  exact ⟨rfl, (by (repeat (first | exact hk | exact Keep.refl _ _ | refine Keep.drew ?_ | refine Keep.drewN ?_ _ | refine Keep.alloc ?_ _ | refine Keep.setNew ?_ (by omega) _)); done)⟩

set_option maxHeartbeats 400000 in
theorem begin_nil (f t : Int) (w : World) : Calls Try.prog 17 #[.pointer none, .int .i64 f, .int .i64 t] w fun e w' => e = .returned (.int .i64 1) ∧ Keep (fun _ => False) w w' := by
  go_enter Try.func17, Try.ntmps17
  go_wp2
  go_ret
  exact ⟨rfl, (by (repeat (first | exact Keep.refl _ _ | exact Keep.refl _ _ | refine Keep.drew ?_ | refine Keep.drewN ?_ _ | refine Keep.alloc ?_ _ | refine Keep.setNew ?_ (by omega) _)); done)⟩

def beginE (L : List Mv) (most f t : Int) : Int :=
  if frameB f = false ∨ frameB t = false then 3 else if f = t then 2 else if (findM L f).isSome = true ∨ (findM L t).isSome = true then 7 else if most ≤ L.length then 13 else 0

/-- How many begin below f. -/
def insK (L : List Mv) (f : Int) : Nat := (L.takeWhile fun x => decide (x.f < f)).length
def beginL (L : List Mv) (f t : Int) : List Mv := L.take (insK L f) ++ [⟨f, t, 1, 0⟩] ++ L.drop (insK L f)

theorem insK_eq {L : List Mv} {f : Int} {k : Nat} (hk : k ≤ L.length) (h1 : ∀ j, j < k → (h : j < L.length) → L[j].f < f) (h2 : ∀ h : k < L.length, ¬ L[k].f < f) : insK L f = k := by
  induction L generalizing k with
  | nil => simp [insK] at hk ⊢; omega
  | cons x L ih =>
    cases k with
    | zero =>
      have := h2 (by simp)
      simp at this
      simp [insK, List.takeWhile_cons, show ¬ x.f < f by omega]
    | succ k =>
      have h0 := h1 0 (by omega) (by simp)
      simp at h0
      have := ih (k := k) (by simpa using hk) (fun j hj hl => by have := h1 (j + 1) (by omega) (by simpa using hl); simpa using this) (fun h => by have := h2 (by simpa using h); simpa using this)
      simp only [insK] at this ⊢
      rw [List.takeWhile_cons_of_pos (by simpa using h0), List.length_cons, this]

theorem sB {w W : World} {b p : Nat} {x v : Value} (h : Keep (fun _ => False) w W) (hb : b < w.heap.size) (hp : p < w.heap.size) (h1 : w.cell? ⟨b, 0, none⟩ = some x) (h2 : w.cell? ⟨p, 1, none⟩ = some v) (h3 : w.frozen? ⟨p, 1, none⟩ = false) :
    W.cell? ⟨b, 0, none⟩ = some x ∧ W.cell? ⟨p, 1, none⟩ = some v ∧ W.frozen? ⟨p, 1, none⟩ = false := ⟨(h.cell hb id).trans h1, (h.cell hp id).trans h2, (h.frozen hp id).trans h3⟩

theorem begin_close {w0 w w2 : World} {B p k : Nat} {v : Value} {most : Int} {L : List Mv} {f t : Int} {a2 : Option Addr} {l2 c2 : Nat} (hK0 : Keep (fun _ => False) w0 w) (hR : RepM w B p v most L) (hk : insK L f = k) (hkl : k ≤ L.length) (hl : L.length < 64) (hp0 : p < w0.heap.size) (hB : B ≤ w.heap.size)
    (HK2 : Keep (fun _ => False) w w2) (HO2 : w2.ownsRow w.heap.size 31 mvE.k (.slice a2 l2 c2) (0 + k + 1 + (L.length - k)) ([] ++ mvE.cs (L.take k) ++ [.int .i64 f, .int .i64 t, .int .i64 1, .int .i64 0] ++ mvE.cs (L.drop k))) :
    ∃ v', RepM (w2.setCell ⟨p, 1, none⟩ (.slice a2 l2 c2)) B p v' most (beginL L f t) ∧ Keep (fun x => x = p) w0 (w2.setCell ⟨p, 1, none⟩ (.slice a2 l2 c2)) ∧
      (∀ x, v'.ownBlock = some x → w0.heap.size ≤ x) := by
  have hpl := Nat.lt_of_lt_of_le hp0 hK0.size
  have hO : OwnL mvE w2 B 31 (.slice a2 l2 c2) (beginL L f t) := by
    have e : [Value.int .i64 f, .int .i64 t, .int .i64 1, .int .i64 0] = mvE.cs [⟨f, t, 1, 0⟩] := by simp [Enc.cs, mvE]
    have := HO2
    rw [List.nil_append, e, ← mvE.cs_append, ← mvE.cs_append] at this
    have h2 := ownsRow_base this (C := B) (fun x hx => by have := (HO2.lt x hx).1; omega)
    unfold OwnL beginL
    rw [hk, List.length_append, List.length_append, List.length_take, List.length_drop, Nat.min_eq_left hkl]
    simpa using h2
  have hlt2 := HO2.lt
  have hs := hK0.size
  refine ⟨_, ⟨?_, ?_, ?_, ?_, hR.m1, hR.m2⟩, ((hK0.trans HK2).mono (T := fun x => x = p) (fun _ _ h => h.elim)).setCell (fun _ => rfl) _, fun x hx => by have := (hlt2 x hx).1; omega⟩
  · rw [heap_setCell_eq ((HK2.block p hpl id).trans hR.hp)]; simp
  · exact hO.keep ((Keep.refl (fun x => x = p) w2).setCell (fun _ => rfl) _) (fun x hx => by have := (hlt2 x hx).1; omega)
  · intro e; have := (hlt2 p e).1; omega
  · simp [beginL, hk]; omega

set_option maxHeartbeats 1000000 in
theorem begin_no (B p : Nat) (v : Value) (most : Int) (L : List Mv) (f t : Int) (w : World) (hR : RepM w B p v most L) (hno : beginE L most f t ≠ 0) :
    Calls Try.prog 17 #[.pointer (some ⟨p, 0, none⟩), .int .i64 f, .int .i64 t] w fun e w' => e = .returned (.int .i64 (beginE L most f t)) ∧ Keep (fun _ => False) w w' := by
  have hpl := block_lt hR.hp
  have hne : w.heap.size ≠ p := by omega
  have hl := hR.hl
  have HR1 := Lib.hid (hR.keep (w' := w.alloc (.cells #[.pointer (some ⟨p, 0, none⟩)] 25)) (by (repeat (first | exact Keep.refl (fun _ => False) _ | exact Keep.refl _ _ | refine Keep.drew ?_ | refine Keep.drewN ?_ _ | refine Keep.alloc ?_ _ | refine Keep.setNew ?_ (by omega) _)); done) id (fun _ _ => id))
  have hbc : (w.alloc (.cells #[.pointer (some ⟨p, 0, none⟩)] 25)).cell? ⟨w.heap.size, 0, none⟩ = some (.pointer (some ⟨p, 0, none⟩)) := by simp
  by_cases h1 : frameB f = false ∨ frameB t = false
  · have e1 : Hid (beginE L most f t = 3) := by unfold Hid beginE; rw [if_pos h1]
    rcases h1 with h1 | h1
    · clear hno
      go_enter Try.func17, Try.ntmps17
      go_wp2_with (go_at_call 34; refine (frame_any _ _).mono ?_; rintro e w1 ⟨rfl, rfl⟩)
      go_ret
      exact ⟨ret_int e1.out.symm, (by (repeat (first | exact Keep.refl _ _ | exact Keep.refl _ _ | refine Keep.drew ?_ | refine Keep.drewN ?_ _ | refine Keep.alloc ?_ _ | refine Keep.setNew ?_ (by omega) _)); done)⟩
    · clear hno
      cases h2 : frameB f
      all_goals
        go_enter Try.func17, Try.ntmps17
        go_wp2_with (go_at_call 34; refine (frame_any _ _).mono ?_; rintro e w1 ⟨rfl, rfl⟩)
        go_ret
        exact ⟨ret_int e1.out.symm, (by (repeat (first | exact Keep.refl _ _ | exact Keep.refl _ _ | refine Keep.drew ?_ | refine Keep.drewN ?_ _ | refine Keep.alloc ?_ _ | refine Keep.setNew ?_ (by omega) _)); done)⟩
  · have hf : frameB f = true := by simpa using fun h => h1 (.inl h)
    have ht : frameB t = true := by simpa using fun h => h1 (.inr h)
    by_cases h2 : f = t
    · have e1 : Hid (beginE L most f t = 2) := by unfold Hid beginE; rw [if_neg h1, if_pos h2]
      have h2' : (f == t) = true := by simpa using h2
      clear h1 hno h2
      go_enter Try.func17, Try.ntmps17
      go_wp2_with (go_at_call 34; refine (frame_any _ _).mono ?_; rintro e w1 ⟨rfl, rfl⟩)
      go_ret
      exact ⟨ret_int e1.out.symm, (by (repeat (first | exact Keep.refl _ _ | exact Keep.refl _ _ | refine Keep.drew ?_ | refine Keep.drewN ?_ _ | refine Keep.alloc ?_ _ | refine Keep.setNew ?_ (by omega) _)); done)⟩
    · have h2' : (f == t) = false := by simpa using h2
      by_cases h3 : (findM L f).isSome = true
      · have e1 : Hid (beginE L most f t = 7) := by unfold Hid beginE; rw [if_neg h1, if_neg h2, if_pos (.inl h3)]
        clear h1 hno h2
        go_enter Try.func17, Try.ntmps17
        go_wp2_with (first | (go_at_call 34; refine (frame_any _ _).mono ?_; rintro e w1 ⟨rfl, rfl⟩) | (go_at_call 35; refine (taken_any _ B p v most L _ _ hbc HR1.out).mono ?_; rintro e w1 ⟨rfl, hk1⟩))
        go_ret
        exact ⟨ret_int e1.out.symm, Keep.trans (by (repeat (first | exact Keep.refl _ _ | exact Keep.refl _ _ | refine Keep.drew ?_ | refine Keep.drewN ?_ _ | refine Keep.alloc ?_ _ | refine Keep.setNew ?_ (by omega) _)); done) hk1⟩
      · have h3' : (findM L f).isSome = false := by simpa using h3
        by_cases h4 : (findM L t).isSome = true
        · have e1 : Hid (beginE L most f t = 7) := by unfold Hid beginE; rw [if_neg h1, if_neg h2, if_pos (.inr h4)]
          clear h1 hno h2 h3
          go_enter Try.func17, Try.ntmps17
          go_wp2_with (first | (go_at_call 34; refine (frame_any _ _).mono ?_; rintro e w1 ⟨rfl, rfl⟩) | (go_at_call 35; refine (taken_any _ B p _ most L _ _ hbc2 HR2.out).mono ?_; rintro e w2 ⟨rfl, hk2⟩) | (go_at_call 35; refine (taken_any _ B p _ most L _ _ hbc HR1.out).mono ?_; rintro e w1 ⟨rfl, hk1⟩; have hbc2 := (hk1.cell (by simp) id).trans hbc; have HR2 := Lib.hid (HR1.out.keep hk1 id (fun _ _ => id))))
          go_ret
          exact ⟨ret_int e1.out.symm, Keep.trans (Keep.trans (by (repeat (first | exact Keep.refl _ _ | exact Keep.refl _ _ | refine Keep.drew ?_ | refine Keep.drewN ?_ _ | refine Keep.alloc ?_ _ | refine Keep.setNew ?_ (by omega) _)); done) hk1) hk2⟩
        · have h4' : (findM L t).isSome = false := by simpa using h4
          have h5 : most ≤ L.length := by
            rcases Int.lt_or_le L.length most with h | h
            · exfalso; apply hno; unfold beginE; rw [if_neg h1, if_neg h2, if_neg (by simp [h3', h4']), if_neg (by omega)]
            · exact h
          have e1 : Hid (beginE L most f t = 13) := by unfold Hid beginE; rw [if_neg h1, if_neg h2, if_neg (by simp [h3', h4']), if_pos h5]
          obtain ⟨a, c, rfl, _⟩ := hR.hv.slice
          clear h1 hno h2 h3 h4
          go_enter Try.func17, Try.ntmps17
          go_wp2_with (first | (go_at_call 34; refine (frame_any _ _).mono ?_; rintro e w1 ⟨rfl, rfl⟩) | (go_at_call 35; refine (taken_any _ B p _ most L _ _ hbc2 HR2.out).mono ?_; rintro e w2 ⟨rfl, hk2⟩) | (go_at_call 35; refine (taken_any _ B p _ most L _ _ hbc HR1.out).mono ?_; rintro e w1 ⟨rfl, hk1⟩; have hbc2 := (hk1.cell (by simp) id).trans hbc; have HR2 := Lib.hid (HR1.out.keep hk1 id (fun _ _ => id))))
          have hbc3 := (hk2.cell (by have := hk1.size; simp at this; omega) id).trans hbc2
          have hc1 := (HR2.out.keep hk2 id (fun _ _ => id)).c1
          have hc0 := (HR2.out.keep hk2 id (fun _ _ => id)).c0
          go_quiet (fail)
          go_wp2
          go_ret
          exact ⟨ret_int e1.out.symm, Keep.drewN (Keep.trans (Keep.trans (by (repeat (first | exact Keep.refl _ _ | exact Keep.refl _ _ | refine Keep.drew ?_ | refine Keep.drewN ?_ _ | refine Keep.alloc ?_ _ | refine Keep.setNew ?_ (by omega) _)); done) hk1) hk2) _⟩

end Go.Proofs.Ytnlalihapmlceaa
