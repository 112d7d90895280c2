/- Moves: both, behind some calls. -/
import Derived.Test.YtnlalihapmlceaaS
set_option linter.unusedVariables false
set_option linter.unusedSimpArgs false
namespace Go.Proofs.Ytnlalihapmlceaa
open Go.RowKit Go.Own

theorem DB.fresh {w0 w w' : World} {p : Nat} {v : Value} {q t s a : Nat} {most : Int} {T S A : List Int} {k : Int} (h : Two w w0.heap.size p v q t s a most T S A k) (h0 : Keep (fun _ => False) w0 w) (hk : Keep (DB p v q t s a) w w') : Keep (fun _ => False) w0 w' := by
  refine Keep.fresh (B := w0.heap.size) ((h0.mono (T := fun x => w0.heap.size ≤ x) (fun _ _ h => h.elim)).trans (hk.mono fun x _ hx => ?_)) (fun _ h => h) (Nat.le_refl _)
  rcases hx with (rfl | e) | e
  · exact h.bd.1
  · exact (h.rm.hv.lt _ e).1
  · exact (h.xlt _ e).2

set_option maxHeartbeats 1000000 in
theorem made_no (n : Int) (la : Option Addr) (l c : Nat) (w : World) (h : n < 1 ∨ 64 < n) :
    Calls Try.prog 9 #[.int .i64 n, .slice la l c] w fun e w' => e = .returned (.tuple #[.pointer none, .pointer none, .bool true]) ∧ w = w' := by
  go_enter Try.func9, Try.ntmps9
  go_wp2_with (first | (go_at_call 16; refine (new_no _ _ h).mono ?_; rintro e w1 ⟨rfl, rfl⟩) | (go_at_call 28; refine (rnew_no _ _ h).mono ?_; rintro e w1 ⟨rfl, rfl⟩))
  refine wp_loop_once ?_
  go_wp2
  go_ret3
  exact ⟨rfl, rfl⟩

set_option maxRecDepth 100000 in
set_option maxHeartbeats 2000000 in
theorem made_yes (n : Int) (la : Option Addr) (A : List A3) (c : Nat) (w : World) (h : 1 ≤ n) (h' : n ≤ 64) (hA : Acts3 w la A) :
    Calls Try.prog 9 #[.int .i64 n, .slice la A.length c] w fun e w' => ∃ p v q t s a T S G, e = .returned (.tuple #[.pointer (some ⟨p, 0, none⟩), .pointer (some ⟨q, 0, none⟩), .bool true]) ∧
      Two w' w.heap.size p v q t s a n T S G 60 ∧ Keep (fun _ => False) w w' := by
  have H1 := Lib.hid hA
  clear hA
  go_enter Try.func9, Try.ntmps9
  go_wp2_with (first | (go_at_call 16; refine (new_yes n w.heap.size _ h h' (Nat.le_refl _)).mono ?_; rintro e w1 ⟨p, rfl, hRM, hp, hk⟩; have HRM := Lib.hid hRM; have HK := Lib.hid hk; clear hRM hk)
                      | (go_at_call 28; refine (rnew_yes n _ h h').mono ?_; rintro e w2 ⟨q, t, s, a, rfl, hRX, hp', hk'⟩; have HRX := Lib.hid hRX; have HK' := Lib.hid hk'; clear hRX hk'))
  have HB : Hid (Two w2 w.heap.size p (.slice none 0 0) q t s a n (List.replicate 1024 0) (List.replicate 1024 0) (List.replicate 1024 0) 0) := by
    have hsz := HK.out.size
    have hsz' := HK'.out.size
    have e1 := block_lt HRM.out.hp
    have hr : rows (List.replicate 1024 0) (List.replicate 1024 0) (List.replicate 1024 0) = [] := by
      apply List.eq_nil_iff_forall_not_mem.mpr
      intro x hx
      obtain ⟨j, _, h0, _⟩ := mem_rows.mp hx
      rw [gi_rep0] at h0; omega
    refine ⟨by rw [hr]; exact HRM.out.keep HK'.out id (fun _ _ => id), HRX.out, Good.nil 0 (by omega), ?_, ⟨hp, by omega, by omega, by omega, by omega⟩, by omega, by rw [rlenN_nil]; omega⟩
    rintro x (rfl | e) hx
    · rcases hx with hx | hx | hx | hx <;> omega
    · simp [Value.ownBlock] at e
  have HKW := Lib.hid (HK.out.trans HK'.out)
  clear HRM HRX HK HK'
  go_loopw [11] (fun i wr => ∃ k : Nat, k ≤ A.length ∧ k ≤ 60 ∧ i = .int .i64 k ∧ ∃ v T S G, Two wr w.heap.size p v q t s a n T S G k ∧ Keep (fun _ => False) w wr) (fun i _ => A.length - (intOf i).toNat)
  case atStart => exact ⟨0, by omega, by omega, rfl, _, _, _, _, HB.out, HKW.out⟩
  case round =>
    obtain ⟨k, hk, h60, rfl, v, T, S, G, hB, hkeep⟩ := hrel
    have HB := Lib.hid hB
    have HKW := Lib.hid hkeep
    clear hB hkeep
    by_cases hlt : k < A.length
    · by_cases h60 : k < 60
      · obtain ⟨b, o, rfl, c1, c2, c3⟩ := H1.out k hlt
        have d1 := (HKW.out.cell (block_lt_cell c1) id).trans c1
        have d2 := (HKW.out.cell (block_lt_cell c2) id).trans c2
        have d3 := (HKW.out.cell (block_lt_cell c3) id).trans c3
        clear c1 c2 c3
        go_wp2_with (go_at_call 12; refine (do_any A[k].k A[k].f A[k].t HB.out (by omega) HKW.out.size).mono ?_; rintro e w4 ⟨rfl, v4, hT4, hk4, -⟩; have HT4 := Lib.hid hT4; have HK4 := Lib.hid (DB.fresh HB.out HKW.out hk4); clear hT4 hk4)
        go_roundw
        case rel => exact ⟨k + 1, by omega, by omega, by go_num, v4, _, _, _, HT4.out, HK4.out⟩
        case measure => simp [intOf]; omega
      · go_wp2
        go_ret3
        exact ⟨p, v, q, t, s, a, T, S, G, rfl, ⟨HB.out.rm, HB.out.rx, HB.out.gd.age (by omega), HB.out.ap, HB.out.bd, by omega, HB.out.ln⟩, HKW.out⟩
    · go_wp2
      all_goals
        go_ret3
        exact ⟨p, v, q, t, s, a, T, S, G, rfl, ⟨HB.out.rm, HB.out.rx, HB.out.gd.age (by omega), HB.out.ap, HB.out.bd, by omega, HB.out.ln⟩, HKW.out⟩

end Go.Proofs.Ytnlalihapmlceaa
