/- FramesDoes: the walk. -/
import Derived.Test.YtajjelfeldofgaaG3
set_option linter.unusedVariables false
set_option linter.unusedSimpArgs false
namespace Go.Proofs.Ytajjelfeldofgaa
open Go.RowKit Go.Own

theorem keep_drewN {S : Nat → Prop} {a w : World} (h : Keep S a w) (n : Nat) : Keep S a (w.drewN n) := ⟨h.os, h.tape, h.output, h.size, h.block⟩
theorem rows_alloc {w : World} {o : Obj} {la : Option Addr} {l : Nat} {ks : List FK} (hr : RowsAt w la l ks) : RowsAt (w.alloc o) la l ks := fun i hi => by
  obtain ⟨b, o, cs, h1, h2, h3⟩ := hr i hi
  refine ⟨b, o, cs, h1, h2, fun j hj => ?_⟩
  rw [cell_alloc_lt]
  · exact h3 j hj
  · have := h3 j hj
    rw [List.getElem?_eq_getElem (by rw [h2.length]; exact hj)] at this
    exact block_lt_cell this

theorem is_at {p q k : Nat} {L : List Int} (hk : k < L.length) (w : World) (hR : RepF w p q L) :
    Calls Try.prog 16 #[.pointer (some ⟨p, 0, none⟩), .int .i64 k] w fun e w' => e = .returned (.int .i64 (gi L k)) ∧ w' = w :=
  (is_any p q L k w hR).mono fun e w' h => ⟨by rw [h.1, isF_at hk], h.2.symm⟩
theorem is_q {p q : Nat} {L : List Int} (f : Int) (w : World) (hR : RepF w p q L) :
    Calls Try.prog 16 #[.pointer (some ⟨p, 0, none⟩), .int .i64 f] w fun e w' => e = .returned (.int .i64 (isF L f)) ∧ w' = w :=
  (is_any p q L f w hR).mono fun e w' h => ⟨h.1, h.2.symm⟩
theorem is_out {p q : Nat} {L : List Int} {f : Int} (hf : f < 0 ∨ (L.length : Int) ≤ f) (w : World) (hR : RepF w p q L) :
    Calls Try.prog 16 #[.pointer (some ⟨p, 0, none⟩), .int .i64 f] w fun e w' => e = .returned (.int .i64 (-1)) ∧ w' = w :=
  (is_any p q L f w hR).mono fun e w' h => ⟨by rw [h.1]; unfold isF; rw [if_pos hf], h.2.symm⟩
theorem count_q {p q : Nat} {L : List Int} (a : Int) (w : World) (hR : RepF w p q L) :
    Calls Try.prog 11 #[.pointer (some ⟨p, 0, none⟩), .int .i64 a] w fun e w' => e = .returned (.int .i64 (L.count a : Nat)) ∧ w' = w :=
  (count_any p q L a w hR).mono fun e w' h => ⟨by rw [h.1, countF_eq hR.st], h.2.symm⟩
theorem rcount_q {B p' : Nat} {v : Value} {L : List Int} (a : Int) (w : World) (hR : RepR w B p' v L) :
    Calls Try.prog 15 #[.pointer (some ⟨p', 0, none⟩), .int .i64 a] w fun e w' => e = .returned (.int .i64 (L.count a : Nat)) ∧ w' = w :=
  (rcount_any B p' v L a w hR).mono fun e w' h => ⟨h.1, h.2.symm⟩
theorem next_q {p q : Nat} {L : List Int} (f a : Int) (w : World) (hR : RepF w p q L) (hf : f ≤ 9223372036854775807) :
    Calls Try.prog 14 #[.pointer (some ⟨p, 0, none⟩), .int .i64 f, .int .i64 a] w fun e w' => e = .returned (.int .i64 (nextF L f a)) ∧ w' = w :=
  (next_any p q L f a w hR hf).mono fun e w' h => ⟨h.1, h.2.symm⟩
theorem rnext_q {B p' : Nat} {v : Value} {L : List Int} (f a : Int) (w : World) (hR : RepR w B p' v L) :
    Calls Try.prog 17 #[.pointer (some ⟨p', 0, none⟩), .int .i64 f, .int .i64 a] w fun e w' => e = .returned (.int .i64 (nextF L f a)) ∧ w' = w :=
  (rnext_any B p' v L f a w hR).mono fun e w' h => ⟨h.1, h.2.symm⟩
theorem len_q {p q : Nat} {L : List Int} (w : World) (hR : RepF w p q L) :
    Calls Try.prog 12 #[.pointer (some ⟨p, 0, none⟩)] w fun e w' => e = .returned (.int .i64 (L.length : Nat)) ∧ w' = w :=
  (len_any p q L.length w hR.c0).mono fun e w' h => ⟨h.1, h.2.symm⟩

theorem RepR.same {w w' : World} {B p : Nat} {v : Value} {L : List Int} (h : RepR w B p v L) (e : w'.heap = w.heap) : RepR w' B p v L :=
  ⟨by rw [e]; exact h.hp, ⟨h.hv.1, by rw [e]; exact h.hv.2⟩, h.ne, h.lo, h.hi, h.st⟩

set_option maxHeartbeats 2000000 in
theorem does_walk (n : Int) (la : Option Addr) (l c : Nat) (f is : Int) (w : World) (hr : RowsAt w la l [.int .i64, .int .i64, .int .i64, .int .i64])
    (wf : (Lit.int .i64 f).wf = true) :
    Calls Try.prog 6 #[.agg #[.int .i64 n, .slice la l c, .int .i64 f, .int .i64 is]] w fun e w' => e = .returned (.bool true) ∧ Below w.heap.size w w' := by
  have HR1 := Lib.hid (rows_alloc (o := .cells #[.int .i64 n, .slice la l c, .int .i64 f, .int .i64 is] 39) hr)
  clear hr
  by_cases hn : n < 8 ∨ 1024 < n
  · go_enter Try.func6, Try.ntmps6
    go_wp2_with fail
    go_quiet (fail)
    go_wp2_with (first | (go_at_call 9; refine (made_no _ _ _ _ _ hn).mono ?_; rintro e w1 ⟨rfl, rfl⟩) | (go_at_call 10; refine (awake_any _).mono ?_; rintro e w2 ⟨rfl, hk⟩))
    go_ret
    exact ⟨rfl, keep_below ((((keep_drewN ((Keep.refl _ w).alloc _) _)).trans (by assumption)).trans hk)⟩
  · obtain ⟨n, rfl⟩ := Int.eq_ofNat_of_zero_le (show 0 ≤ n by omega)
    obtain ⟨A, rfl, hA⟩ := acts_of_rows HR1.out
    have HA := Lib.hid hA
    clear hA
    go_enter Try.func6, Try.ntmps6
    go_wp2_with fail
    go_quiet (fail)
    go_wp2_with (first | (go_at_call 9; refine (made_yes n _ _ _ _ (by omega) (by omega) (by exact HA.out)).mono ?_; rintro e w1 ⟨p, q, p', v, L, rfl, hB, hL, hk1⟩; have HB := Lib.hid hB; have HL := Lib.hid hL; have HK := Lib.hid hk1; clear hB hL hk1) | (go_at_call 10; refine (awake_any _).mono ?_; rintro e w2 ⟨rfl, hk⟩; have HB2 := Lib.hid (HB.out.keep hk); have HK2 := Lib.hid (HK.out.trans hk); clear hk))
    have HE : Hid (Keep (fun _ => False) w w2) := ((keep_drewN ((Keep.refl _ w).alloc _) _).trans HK2.out)
    have hlen := HB2.out.f.hi
    obtain ⟨g, cap, e, hBg, hgp, hcap, hcells⟩ := HB2.out.r.form
    subst e
    have HC := Lib.hid hcells
    clear hcells
    have hc0 := HB2.out.r.c0
    have hc1 := HB2.out.f.c0
    go_loopw [10] (fun i wr => ∃ k : Nat, k ≤ L.length ∧ i = .int .i64 k ∧ RepF wr p q L ∧ RepR wr w.heap.size p' (.slice (some ⟨g, 0, none⟩) L.length cap) L ∧ Keep (fun _ => False) w2 wr) (fun i _ => L.length - (intOf i).toNat)
    case atStart => exact ⟨0, by omega, rfl, HB2.out.f, HB2.out.r.base (by simp), Keep.refl _ _⟩
    case round =>
      obtain ⟨k, hk, rfl, hF, hR, hkeep⟩ := hrel
      have hc0 := hR.c0
      have hc1 := hF.c0
      have HF := Lib.hid hF
      have HR := Lib.hid hR
      have HK3 := Lib.hid hkeep
      clear hF hR hkeep
      by_cases hlt : k < L.length
      · have hcell := (HK3.out.cell (block_lt_cell (HC.out k hlt)) id).trans (HC.out k hlt)
        go_wp2_with fail
        go_quiet ((go_at_call 16; exact Calls.quiet_of_same (is_at hlt _ (by exact HF.out.same rfl rfl))))
        go_wp2
        go_roundw
        case rel => exact ⟨k + 1, by omega, by go_num, HF.out.same rfl rfl, ⟨HR.out.hp, HR.out.hv, HR.out.ne, HR.out.lo, HR.out.hi, HR.out.st⟩, keep_drewN HK3.out _⟩
        case measure => simp [intOf]; omega
      · have hw := wf64 wf
        by_cases h0 : 0 ≤ f
        · by_cases h1 : f < L.length
          · obtain ⟨f, rfl⟩ := Int.eq_ofNat_of_zero_le h0
            have h2 : f < L.length := by omega
            have hcell := (HK3.out.cell (block_lt_cell (HC.out f h2)) id).trans (HC.out f h2)
            go_wp2_with fail
            go_quiet (first | (go_at_call 16; exact Calls.quiet_of_same (is_at h2 _ (by exact HF.out.same rfl rfl))) | (go_at_call 11; exact Calls.quiet_of_same (count_q _ _ (by exact HF.out.same rfl rfl))) | (go_at_call 15; exact Calls.quiet_of_same (rcount_q _ _ (by exact HR.out.same rfl))) | (go_at_call 14; exact Calls.quiet_of_same (next_q _ _ _ (by exact HF.out.same rfl rfl) (by omega))) | (go_at_call 17; exact Calls.quiet_of_same (rnext_q _ _ _ (by exact HR.out.same rfl))) | (go_at_call 12; exact Calls.quiet_of_same (len_q _ (by exact HF.out.same rfl rfl))))
            go_wp2
            go_ret
            exact ⟨ret_bool (by simp), keep_below (keep_drewN (HE.out.trans HK3.out) _)⟩
          · have h2 : (L.length : Int) ≤ f := by omega
            clear h1
            go_wp2_with fail
            go_quiet (first | (go_at_call 16; exact Calls.quiet_of_same (is_out (L := L) (by omega) _ (by exact HF.out.same rfl rfl))) | (go_at_call 11; exact Calls.quiet_of_same (count_q _ _ (by exact HF.out.same rfl rfl))) | (go_at_call 15; exact Calls.quiet_of_same (rcount_q _ _ (by exact HR.out.same rfl))) | (go_at_call 14; exact Calls.quiet_of_same (next_q _ _ _ (by exact HF.out.same rfl rfl) (by omega))) | (go_at_call 17; exact Calls.quiet_of_same (rnext_q _ _ _ (by exact HR.out.same rfl))) | (go_at_call 12; exact Calls.quiet_of_same (len_q _ (by exact HF.out.same rfl rfl))))
            go_wp2
            go_ret
            exact ⟨ret_bool (by simp), keep_below (keep_drewN (HE.out.trans HK3.out) _)⟩
        · have h2 : f < 0 := by omega
          clear h0
          go_wp2_with fail
          go_quiet (first | (go_at_call 16; exact Calls.quiet_of_same (is_out (L := L) (by omega) _ (by exact HF.out.same rfl rfl))) | (go_at_call 11; exact Calls.quiet_of_same (count_q _ _ (by exact HF.out.same rfl rfl))) | (go_at_call 15; exact Calls.quiet_of_same (rcount_q _ _ (by exact HR.out.same rfl))) | (go_at_call 14; exact Calls.quiet_of_same (next_q _ _ _ (by exact HF.out.same rfl rfl) (by omega))) | (go_at_call 17; exact Calls.quiet_of_same (rnext_q _ _ _ (by exact HR.out.same rfl))) | (go_at_call 12; exact Calls.quiet_of_same (len_q _ (by exact HF.out.same rfl rfl))))
          go_wp2
          go_ret
          exact ⟨ret_bool (by simp), keep_below (keep_drewN (HE.out.trans HK3.out) _)⟩

end Go.Proofs.Ytajjelfeldofgaa
