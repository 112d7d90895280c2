/- Moves: Finish, Abort, Tick, All. -/
import Derived.Test.YtnlalihapmlceaaB
set_option linter.unusedVariables false
set_option linter.unusedSimpArgs false
namespace Go.Proofs.Ytnlalihapmlceaa
open Go.RowKit Go.Own

def abortR (L : List Mv) (f : Int) : Int × Int := if ofI L f = -1 then (0, 6) else ((L.getD (ofI L f).toNat mv0).t, 0)
def abortL (L : List Mv) (f : Int) : List Mv := if ofI L f = -1 then L else endL L (ofI L f).toNat
def finR (L : List Mv) (f : Int) : Int × Int := if ofI L f = -1 then (0, 6) else if meetM L f ≠ 2 then (0, 5) else ((L.getD (ofI L f).toNat mv0).t, 0)
def finL (L : List Mv) (f : Int) : List Mv := if ofI L f = -1 then L else if meetM L f ≠ 2 then L else endL L (ofI L f).toNat

set_option maxHeartbeats 400000 in
theorem abort_nil (f : Int) (w : World) :
    Calls Try.prog 20 #[.pointer none, .int .i64 f] w fun e w' => e = .returned (.tuple #[.int .i64 0, .int .i64 1]) ∧ Keep (fun _ => False) w w' := by
  go_enter Try.func20, Try.ntmps20
  go_wp2_with (go_at_call 33; refine (of_nil _ _).mono ?_; rintro e w1 ⟨rfl, rfl⟩)
  go_ret2
  exact ⟨rfl, Keep.refl _ _⟩

set_option maxHeartbeats 1000000 in
theorem abort_any (B p : Nat) (v : Value) (most : Int) (L : List Mv) (f : Int) (w : World) (hB : B ≤ w.heap.size) (hR : RepM w B p v most L) :
    Calls Try.prog 20 #[.pointer (some ⟨p, 0, none⟩), .int .i64 f] w fun e w' => ∃ v', e = .returned (.tuple #[.int .i64 (abortR L f).1, .int .i64 (abortR L f).2]) ∧ RepM w' B p v' most (abortL L f) ∧ Keep (fun x => x = p) w w' ∧
      (∀ x, v'.ownBlock = some x → v.ownBlock = some x ∨ w.heap.size ≤ x) := by
  rcases ofI_cases L f with ⟨h1, h2⟩ | ⟨k, h1, hk, h3⟩
  · have e1 : Hid (abortR L f = (0, 6)) := by unfold Hid abortR; rw [if_pos h1]
    have e2 : Hid (abortL L f = L) := by unfold Hid abortL; rw [if_pos h1]
    have H1 := Lib.hid h1
    clear h1
    go_enter Try.func20, Try.ntmps20
    go_wp2_with (go_at_call 33; refine (of_any B p v most L f _ hR).mono ?_; rw [H1.out]; rintro e w1 ⟨rfl, hk⟩)
    go_ret2
    exact ⟨v, by rw [e1.out]; rfl, by rw [e2.out]; exact hR.keep hk id (fun _ _ => id), hk.mono (fun _ _ h => h.elim), fun _ h => .inl h⟩
  · have e1 : Hid (abortR L f = (L[k].t, 0)) := by unfold Hid abortR; rw [if_neg (by rw [h1]; omega), h1]; simp [hk]
    have e2 : Hid (abortL L f = endL L k) := by unfold Hid abortL; rw [if_neg (by rw [h1]; omega), h1]; rfl
    have H1 := Lib.hid h1
    clear h1
    have hk0 : (0 : Int) ≤ k := by omega
    go_enter Try.func20, Try.ntmps20
    go_wp2_with (first | (go_at_call 33; refine (of_any B p v most L f _ hR).mono ?_; rw [H1.out]; rintro e w1 ⟨rfl, hk1⟩)
                       | (go_at_call 36; refine (end_any B p k v most L _ (by have := hk1.size; omega) (hR.keep hk1 id (fun _ _ => id)) hk).mono ?_; rintro e w2 ⟨v', rfl, hR2, hk2, hv2⟩))
    go_ret2
    exact ⟨v', by rw [e1.out]; rfl, by rw [e2.out]; exact hR2, (hk1.mono (fun _ _ h => h.elim)).trans hk2, fun x h => .inr (Nat.le_trans hk1.size (hv2 x h))⟩

set_option maxHeartbeats 400000 in
theorem fin_nil (f : Int) (w : World) :
    Calls Try.prog 19 #[.pointer none, .int .i64 f] w fun e w' => e = .returned (.tuple #[.int .i64 0, .int .i64 1]) ∧ Keep (fun _ => False) w w' := by
  go_enter Try.func19, Try.ntmps19
  go_wp2_with (go_at_call 33; refine (of_nil _ _).mono ?_; rintro e w1 ⟨rfl, rfl⟩)
  go_ret2
  exact ⟨rfl, Keep.refl _ _⟩

set_option maxHeartbeats 1000000 in
theorem fin_any (B p : Nat) (v : Value) (most : Int) (L : List Mv) (f : Int) (w : World) (hB : B ≤ w.heap.size) (hR : RepM w B p v most L) :
    Calls Try.prog 19 #[.pointer (some ⟨p, 0, none⟩), .int .i64 f] w fun e w' => ∃ v', e = .returned (.tuple #[.int .i64 (finR L f).1, .int .i64 (finR L f).2]) ∧ RepM w' B p v' most (finL L f) ∧ Keep (fun x => x = p) w w' ∧
      (∀ x, v'.ownBlock = some x → v.ownBlock = some x ∨ w.heap.size ≤ x) := by
  rcases ofI_cases L f with ⟨h1, h2⟩ | ⟨k, h1, hk, h3⟩
  · have e1 : Hid (finR L f = (0, 6)) := by unfold Hid finR; rw [if_pos h1]
    have e2 : Hid (finL L f = L) := by unfold Hid finL; rw [if_pos h1]
    have H1 := Lib.hid h1
    clear h1
    go_enter Try.func19, Try.ntmps19
    go_wp2_with (go_at_call 33; refine (of_any B p v most L f _ hR).mono ?_; rw [H1.out]; rintro e w1 ⟨rfl, hk⟩)
    go_ret2
    exact ⟨v, by rw [e1.out]; rfl, by rw [e2.out]; exact hR.keep hk id (fun _ _ => id), hk.mono (fun _ _ h => h.elim), fun _ h => .inl h⟩
  · have hm : meetM L f = L[k].s := by unfold meetM; rw [if_neg (by rw [h1]; omega), h1]; simp [hk]
    have hk0 : (0 : Int) ≤ k := by omega
    obtain ⟨g, cap, rfl, hBg, hcap, hgl⟩ := hR.hv.form (by intro e; subst e; simp at hk)
    have hl := hR.hl
    by_cases hs : L[k].s = 2
    · have e1 : Hid (finR L f = (L[k].t, 0)) := by unfold Hid finR; rw [if_neg (by rw [h1]; omega), if_neg (by rw [hm]; simp [hs]), h1]; simp [hk]
      have e2 : Hid (finL L f = endL L k) := by unfold Hid finL; rw [if_neg (by rw [h1]; omega), if_neg (by rw [hm]; simp [hs]), h1]; rfl
      have hs' : (L[k].s != 2) = false := by simp [hs]
      have H1 := Lib.hid h1
      clear h1 hs hm
      go_enter Try.func19, Try.ntmps19
      go_wp2_with (first | (go_at_call 33; refine (of_any B p _ most L f _ hR).mono ?_; rw [H1.out]; rintro e w1 ⟨rfl, hk1⟩; have hc1 := (hR.keep hk1 id (fun _ _ => id)).c1; obtain ⟨c0, c1, c2, c3⟩ := mv_cells (hR.hv.keep hk1 (fun _ _ => id)) hk)
                         | (go_at_call 36; refine (end_any B p k _ most L _ (by have := hk1.size; omega) (hR.keep hk1 id (fun _ _ => id)) hk).mono ?_; rintro e w2 ⟨v', rfl, hR2, hk2, hv2⟩))
      go_ret2
      exact ⟨v', by rw [e1.out]; rfl, by rw [e2.out]; exact hR2, (hk1.mono (fun _ _ h => h.elim)).trans hk2, fun x h => .inr (Nat.le_trans hk1.size (hv2 x h))⟩
    · have e1 : Hid (finR L f = (0, 5)) := by unfold Hid finR; rw [if_neg (by rw [h1]; omega), if_pos (by rw [hm]; exact hs)]
      have e2 : Hid (finL L f = L) := by unfold Hid finL; rw [if_neg (by rw [h1]; omega), if_pos (by rw [hm]; exact hs)]
      have hs' : (L[k].s != 2) = true := by simpa using hs
      have H1 := Lib.hid h1
      clear h1 hs hm
      go_enter Try.func19, Try.ntmps19
      go_wp2_with (go_at_call 33; refine (of_any B p _ most L f _ hR).mono ?_; rw [H1.out]; rintro e w1 ⟨rfl, hk1⟩; have hc1 := (hR.keep hk1 id (fun _ _ => id)).c1; obtain ⟨c0, c1, c2, c3⟩ := mv_cells (hR.hv.keep hk1 (fun _ _ => id)) hk)
      go_ret2
      exact ⟨_, by rw [e1.out]; rfl, by rw [e2.out]; exact hR.keep hk1 id (fun _ _ => id), hk1.mono (fun _ _ h => h.elim), fun _ h => .inl h⟩

set_option maxHeartbeats 400000 in
theorem all_nil (w : World) : Calls Try.prog 14 #[.pointer none] w fun e w' => e = .returned (.slice none 0 0) ∧ w = w' := by
  go_enter Try.func14, Try.ntmps14
  go_wp2
  go_ret
  exact ⟨rfl, rfl⟩

set_option maxHeartbeats 1000000 in
theorem all_any (B p : Nat) (v : Value) (most : Int) (L : List Mv) (w : World) (hR : RepM w B p v most L) :
    Calls Try.prog 14 #[.pointer (some ⟨p, 0, none⟩)] w fun e w' => ∃ v', e = .returned v' ∧ OwnL mvE w' w.heap.size 31 v' L ∧ Keep (fun _ => False) w w' := by
  have hc1 := hR.c1
  have hl := hR.hl
  have hpl := block_lt hR.hp
  go_enter Try.func14, Try.ntmps14
  go_wp2_with (at_builtin; refine wpl_app et36 rfl (.tmp 5) (.tmp 9) rfl w.heap.size (.slice (some ⟨w.heap.size, 0, none⟩) 0 0) 0 [] rfl (own_empty_at (heap_alloc_new w _) (Nat.le_refl _)) v L.length (mvE.cs L) rfl (hR.hv.reads.keep (S := fun _ => False) (by (repeat (first | exact Keep.refl _ _ | exact Keep.refl _ _ | refine Keep.drew ?_ | refine Keep.drewN ?_ _ | refine Keep.alloc ?_ _ | refine Keep.setNew ?_ (by omega) _)); done) (fun _ _ _ _ => id)) (mvE.cs_one_cell _) (by unfold maxLen; omega) (by omega) (by simp) ?_; intro v1 w1 hown1 hgrow1)
  go_ret
  refine ⟨_, rfl, ?_, Keep.grown (by (repeat (first | exact Keep.refl _ _ | exact Keep.refl _ _ | refine Keep.drew ?_ | refine Keep.drewN ?_ _ | refine Keep.alloc ?_ _ | refine Keep.setNew ?_ (by omega) _)); done) hgrow1 (fun x h1 h2 => by simp [Value.ownBlock] at h1; omega)⟩
  rw [Nat.zero_add, List.nil_append] at hown1; exact hown1

set_option maxHeartbeats 400000 in
theorem tick_nil (w : World) : Calls Try.prog 21 #[.pointer none] w fun e w' => e = .returned (.tuple #[]) ∧ w = w' := by
  go_enter Try.func21, Try.ntmps21
  go_wp2
  exact bodyPost_ret (results_none rfl _ _ _) rfl ⟨rfl, rfl⟩

def tickL (L : List Mv) : List Mv := L.map fun x => { x with a := x.a + 1 }
def tickN (L : List Mv) (k : Nat) : List Mv := tickL (L.take k) ++ L.drop k

theorem tickN_length {L : List Mv} {k : Nat} (h : k ≤ L.length) : (tickN L k).length = L.length := by simp [tickN, tickL]; omega
theorem tickN_get {L : List Mv} {k : Nat} (h : k < L.length) (h' : k < (tickN L k).length) : (tickN L k)[k] = L[k] := by
  have e : (tickL (L.take k)).length = k := by simp [tickL]; omega
  simp only [tickN]
  rw [List.getElem_append_right (by omega)]
  simp [e]
theorem tickN_set {L : List Mv} {k : Nat} (h : k < L.length) : (tickN L k).set k ⟨L[k].f, L[k].t, L[k].s, L[k].a + 1⟩ = tickN L (k + 1) := by
  have e : (tickL (L.take k)).length = k := by simp [tickL]; omega
  simp only [tickN]
  rw [List.set_append_right _ _ (by omega), e, Nat.sub_self, List.drop_eq_getElem_cons h, List.set_cons_zero, List.take_succ_eq_append_getElem h]
  simp only [tickL, List.map_append, List.map_cons, List.map_nil, List.append_assoc, List.cons_append, List.nil_append]

set_option maxHeartbeats 1000000 in
theorem tick_any (B p : Nat) (v : Value) (most : Int) (L : List Mv) (w : World) (hR : RepM w B p v most L) (ha : ∀ x, x ∈ L → 0 ≤ x.a ∧ x.a ≤ 1000000) :
    Calls Try.prog 21 #[.pointer (some ⟨p, 0, none⟩)] w fun e w' => e = .returned (.tuple #[]) ∧ RepM w' B p v most (tickL L) ∧ Keep (fun x => x = p ∨ v.ownBlock = some x) w w' := by
  have hc1 := hR.c1
  have hl := hR.hl
  rcases hR.hv.any with ⟨rfl, rfl⟩ | ⟨g, cap, rfl, hBg, hcap, hmax, hgl⟩
  · go_enter Try.func21, Try.ntmps21
    go_wp2
    refine wp_loop_once ?_
    go_wp2
    go_end0
    exact ⟨rfl, hR, Keep.refl _ _⟩
  · go_enter Try.func21, Try.ntmps21
    go_wp2
    go_loopw [10] (fun i wr => ∃ k : Nat, k ≤ L.length ∧ i = .int .i64 k ∧ RepM wr B p (.slice (some ⟨g, 0, none⟩) L.length cap) most (tickN L k) ∧ Keep (fun x => x = p ∨ some g = some x) w wr) (fun i _ => L.length - (intOf i).toNat)
    case atStart => exact ⟨0, by omega, rfl, hR, Keep.refl _ _⟩
    case round =>
      obtain ⟨k, hk, rfl, hR2, hkeep⟩ := hrel
      have hc2 := hR2.c1
      have hne := hR.ne
      simp [Value.ownBlock] at hne
      by_cases hlt : k < L.length
      · have hlt2 : k < (tickN L k).length := by rw [tickN_length hk]; exact hlt
        obtain ⟨c0, c1, c2, c3⟩ := mv_cells hR2.hv hlt2
        rw [tickN_get hlt hlt2] at c0 c1 c2 c3
        have hz := hR2.hv.frozen (k * 4 + 1 + 1 + 1)
        have hb := ha L[k] (List.getElem_mem hlt)
        have HR2 := Lib.hid hR2
        have HKP := Lib.hid hkeep
        clear hR2 hkeep
        go_wp2
        go_roundw
        case rel =>
          refine ⟨k + 1, by omega, by go_num, ⟨?_, ?_, hR.ne, by rw [tickN_length (by omega)]; exact hl, hR.m1, hR.m2⟩, HKP.out.setCell (fun _ => .inr rfl) _⟩
          · rw [heap_setCell_ne (by simp; omega)]; exact HR2.out.hp
          · have := HR2.out.hv.set (i := k) (j := 3) (x := ⟨L[k].f, L[k].t, L[k].s, L[k].a + 1⟩) (u := .int .i64 (L[k].a + 1)) hlt2 (by decide) (by rw [tickN_get hlt hlt2]; rfl)
            rw [tickN_set hlt] at this
            exact this
        case measure => simp [intOf]; omega
      · obtain rfl : k = L.length := by omega
        have e1 : tickN L L.length = tickL L := by simp [tickN]
        rw [e1] at hR2
        have HR2 := Lib.hid hR2
        have HKP := Lib.hid hkeep
        clear hR2 hkeep
        go_wp2
        go_end0
        exact ⟨rfl, HR2.out, HKP.out⟩

end Go.Proofs.Ytnlalihapmlceaa
