/- Reservations: awake. -/
import Derived.Test.YtmbgebmhdofdaaaG
import Derived.Test.YtmbgebmhdofdaaaD
set_option linter.unusedVariables false
set_option linter.unusedSimpArgs false
namespace Go.Proofs.Ytmbgebmhdofdaaa
open Go.RowKit Go.Own

theorem in_cell {w : World} {B : Nat} {g n cap i : Nat} {Q : List Int} (h : OwnL inE w B 3 (.slice (some ⟨g, 0, none⟩) n cap) Q) (hi : i < Q.length) :
    w.cell? ⟨g, i, none⟩ = some (.int .i64 Q[i]) := by
  have := OwnL.cell (j := 0) h hi (by decide)
  simpa [inE] using this

theorem op162 : opN 16 2 8 = [16, 18, 19, 20, 21, 22, 23] := by decide

set_option maxRecDepth 100000 in
set_option maxHeartbeats 2000000 in
theorem awake_any (w : World) : Calls Try.prog 9 #[] w fun e w' => e = .returned (.bool true) ∧ Keep (fun _ => False) w w' := by
  go_enter Try.func9, Try.ntmps9
  go_wp2_with fail
  refine (new_any w.heap.size _ (Nat.le_refl _)).mono ?_
  rintro e w1 ⟨p, rfl, hR, hp, hk⟩
  have H1 := Lib.hid hR
  have K1 : Hid (Keep (fun x => w.heap.size ≤ x) w w1) := hk.mono (fun _ _ h => h.elim)
  clear hR hk
  go_wp2_with fail
  refine (make_first w.heap.size p _ 0 8 16 (by omega) (by omega) (by omega) _ K1.out.size H1.out).mono ?_
  rintro e w2 ⟨v2, rfl, hR, hk, -⟩
  have H2 : Hid (RepR w2 w.heap.size p v2 [⟨0, 8, 16, 0⟩]) := hR
  have K2 := Lib.hid (K1.out.trans (hk.mono (T := fun x => w.heap.size ≤ x) (fun _ _ h => by omega)))
  clear hR hk K1
  go_wp2_with fail
  refine (fill_new w.heap.size p _ ⟨0, 8, 16, 0⟩ 9 (by omega) rfl (by decide) (by decide) _ K2.out.size H2.out (by decide)).mono ?_
  rintro e w3 ⟨v3, rfl, hR, hk, -⟩
  have H3 : Hid (RepR w3 w.heap.size p v3 [⟨0, 8, 16, 2⟩]) := hR
  have K3 := Lib.hid (K2.out.trans (hk.mono (T := fun x => w.heap.size ≤ x) (fun _ _ h => by omega)))
  clear hR hk K2
  rw [show ((16 : Int) + ((9 : Nat) : Int) - 8) = 17 by decide]
  go_wp2_with fail
  refine (held_one w.heap.size p _ ⟨0, 8, 16, 2⟩ (by decide) (by decide) 7 (by decide) _ H3.out).mono ?_
  rintro e w4 ⟨rfl, hk⟩
  have H4 := Lib.hid (H3.out.keep0 hk)
  have K4 := Lib.hid (K3.out.trans (hk.mono (T := fun x => w.heap.size ≤ x) (fun _ _ h => h.elim)))
  clear hk K3
  rw [show ((7 : Nat) : Int) = 7 from rfl]
  go_wp2_with fail
  refine (break_one w.heap.size p _ ⟨0, 8, 16, 2⟩ 8 (by omega) rfl (by decide) (by decide) _ K4.out.size H4.out).mono ?_
  rintro e w5 ⟨v5, u5, rfl, hR, hO, hk⟩
  have H5 := Lib.hid hR
  have K5 := Lib.hid (K4.out.trans (hk.mono (T := fun x => w.heap.size ≤ x) (fun _ _ h => by omega)))
  rw [op162] at hO
  have HO := Lib.hid hO
  obtain ⟨g, cap, rfl, -⟩ := HO.out.form (by simp)
  have c0 := in_cell (i := 0) HO.out (by simp)
  simp only [List.getElem_cons_zero] at c0
  clear hR hk hO K4
  go_wp2_with (go_at_call 11; go_loud (refine (held_zero w.heap.size p _ _ H5.out).mono ?_; rintro e w6 ⟨rfl, hk6⟩))
  go_ret
  exact ⟨rfl, (K5.out.trans (hk6.mono (T := fun x => w.heap.size ≤ x) (fun _ _ h => h.elim))).mono (fun x h1 h2 => by omega)⟩

end Go.Proofs.Ytmbgebmhdofdaaa
