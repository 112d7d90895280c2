/- Moves: Begin at large, awake. -/
import Derived.Test.YtnlalihapmlceaaC
import Derived.Test.YtnlalihapmlceaaE
set_option linter.unusedVariables false
set_option linter.unusedSimpArgs false
namespace Go.Proofs.Ytnlalihapmlceaa
open Go.RowKit Go.Own

def beginS (L : List Mv) (most f t : Int) : List Mv := if beginE L most f t = 0 then beginL L f t else L

theorem begin_any (B p : Nat) (v : Value) (most : Int) (L : List Mv) (f t : Int) (w : World) (hB : B ≤ w.heap.size) (hR : RepM w B p v most L) :
    Calls Try.prog 17 #[.pointer (some ⟨p, 0, none⟩), .int .i64 f, .int .i64 t] w fun e w' => ∃ v', e = .returned (.int .i64 (beginE L most f t)) ∧ RepM w' B p v' most (beginS L most f t) ∧ Keep (fun x => x = p) w w' ∧ (∀ x, v'.ownBlock = some x → v.ownBlock = some x ∨ w.heap.size ≤ x) := by
  by_cases h : beginE L most f t = 0
  · refine (begin_yes B p v most L f t w hB hR h).mono ?_
    rintro e w' ⟨rfl, v', h1, h2, h3⟩
    refine ⟨v', by rw [h], ?_, h2, fun x hx => .inr (h3 x hx)⟩
    unfold beginS; rw [if_pos h]; exact h1
  · refine (begin_no B p v most L f t w hR h).mono ?_
    rintro e w' ⟨rfl, h2⟩
    refine ⟨v, rfl, ?_, h2.mono (fun _ _ h => h.elim), fun x hx => .inl hx⟩
    unfold beginS; rw [if_neg h]; exact hR.keep h2 id (fun _ _ => id)

set_option maxHeartbeats 2000000 in
theorem awake_any (w : World) : Calls Try.prog 10 #[] w fun e w' => e = .returned (.bool true) ∧ Keep (fun _ => False) w w' := by
  go_enter Try.func10, Try.ntmps10
  go_wp2_with fail
  refine (new_yes 2 w.heap.size _ (by omega) (by omega) (Nat.le_refl _)).mono ?_
  rintro e w1 ⟨p, rfl, hR, hp, hk⟩
  have H1 := Lib.hid hR
  have K1 : Hid (Keep (fun x => w.heap.size ≤ x) w w1) := hk.mono (fun _ _ h => h.elim)
  clear hR hk
  go_wp2_with fail
  refine (begin_any w.heap.size p _ 2 [] 5 9 _ K1.out.size H1.out).mono ?_
  rw [show beginE [] 2 5 9 = 0 by decide, show beginS [] 2 5 9 = [⟨5, 9, 1, 0⟩] by decide]
  rintro e w2 ⟨v2, rfl, hR, hk, -⟩
  have H2 := Lib.hid hR
  have K2 := Lib.hid (K1.out.trans (hk.mono (T := fun x => w.heap.size ≤ x) (fun _ _ h => by omega)))
  clear hR hk K1
  go_wp2_with fail
  refine (meet_any w.heap.size p _ 2 [⟨5, 9, 1, 0⟩] 5 _ H2.out).mono ?_
  rw [show meetM [⟨5, 9, 1, 0⟩] 5 = 1 by decide]
  rintro e w3 ⟨rfl, hk⟩
  have H3 := Lib.hid (H2.out.keep hk id (fun _ _ => id))
  have K3 := Lib.hid (K2.out.trans (hk.mono (T := fun x => w.heap.size ≤ x) (fun _ _ h => h.elim)))
  clear hk K2
  go_wp2_with fail
  refine (fin_any w.heap.size p _ 2 [⟨5, 9, 1, 0⟩] 5 _ K3.out.size H3.out).mono ?_
  rw [show finR [⟨5, 9, 1, 0⟩] 5 = (0, 5) by decide, show finL [⟨5, 9, 1, 0⟩] 5 = [⟨5, 9, 1, 0⟩] by decide]
  rintro e w4 ⟨v4, rfl, hR, hk, -⟩
  have H4 := Lib.hid hR
  have K4 := Lib.hid (K3.out.trans (hk.mono (T := fun x => w.heap.size ≤ x) (fun _ _ h => by omega)))
  clear hR hk K3
  go_wp2_with fail
  have hb4 := H4.out.hv
  refine (copy_any w.heap.size p _ 2 [⟨5, 9, 1, 0⟩] 5 _ H4.out).mono ?_
  rw [show copyE [⟨5, 9, 1, 0⟩] 5 = 0 by decide, show copyL [⟨5, 9, 1, 0⟩] 5 = [⟨5, 9, 2, 0⟩] by decide]
  rintro e w5 ⟨rfl, hR, hk⟩
  have H5 := Lib.hid hR
  have K5 := Lib.hid (K4.out.trans (hk.mono (T := fun x => w.heap.size ≤ x) (fun x _ h => by rcases h with rfl | h; exact hp; exact (hb4.lt x h).1)))
  clear hR hk K4
  go_wp2_with fail
  refine (meet_any w.heap.size p _ 2 [⟨5, 9, 2, 0⟩] 5 _ H5.out).mono ?_
  rw [show meetM [⟨5, 9, 2, 0⟩] 5 = 2 by decide]
  rintro e w6 ⟨rfl, hk⟩
  have H6 := Lib.hid (H5.out.keep hk id (fun _ _ => id))
  have K6 := Lib.hid (K5.out.trans (hk.mono (T := fun x => w.heap.size ≤ x) (fun _ _ h => h.elim)))
  clear hk K5
  go_wp2_with fail
  refine (fin_any w.heap.size p _ 2 [⟨5, 9, 2, 0⟩] 5 _ K6.out.size H6.out).mono ?_
  rw [show finR [⟨5, 9, 2, 0⟩] 5 = (9, 0) by decide, show finL [⟨5, 9, 2, 0⟩] 5 = [] by decide]
  rintro e w7 ⟨v7, rfl, hR, hk, -⟩
  have H7 := Lib.hid hR
  have K7 := Lib.hid (K6.out.trans (hk.mono (T := fun x => w.heap.size ≤ x) (fun _ _ h => by omega)))
  clear hR hk K6
  go_wp2_with fail
  refine (meet_any w.heap.size p _ 2 [] 5 _ H7.out).mono ?_
  rw [show meetM [] 5 = 0 by decide]
  rintro e w8 ⟨rfl, hk⟩
  have K8 := Lib.hid (K7.out.trans (hk.mono (T := fun x => w.heap.size ≤ x) (fun _ _ h => h.elim)))
  clear hk K7
  go_wp2
  go_ret
  exact ⟨rfl, K8.out.mono (fun x h1 h2 => by omega)⟩

end Go.Proofs.Ytnlalihapmlceaa
