/- Reservations: where, in any list. -/
import Derived.Test.YtmbgebmhdofdaaaL
set_option linter.unusedVariables false
set_option linter.unusedSimpArgs false
namespace Go.Proofs.Ytmbgebmhdofdaaa
open Go.RowKit Go.Own

set_option maxHeartbeats 1000000 in
theorem test2_any (x : Rv) (s p : Int) (b : Nat) (w : World) (hb : w.cell? ⟨b, 0, none⟩ = some (.int .i64 s) ∧ w.cell? ⟨b, 1, none⟩ = some (.int .i64 p)) :
    Calls Try.prog 43 #[rvV x, .pointer (some ⟨b, 0, none⟩)] w fun e w' => e = .returned (.bool (x.s == s && x.p == p)) ∧ Keep (fun _ => False) w w' := by
  unfold rvV
  have KB : Hid (Keep (fun _ => False) w (w.alloc (.cells #[.int .i64 x.s, .int .i64 x.p, .int .i64 x.f, .int .u8 x.b] 31))) := (Keep.refl _ _).alloc _
  have HX := Lib.hid (cells4 (heap_alloc_new w (.cells #[.int .i64 x.s, .int .i64 x.p, .int .i64 x.f, .int .u8 x.b] 31)))
  have HY := Lib.hid (show (w.alloc (.cells #[.int .i64 x.s, .int .i64 x.p, .int .i64 x.f, .int .u8 x.b] 31)).cell? ⟨b, 0, none⟩ = some (.int .i64 s) ∧ (w.alloc (.cells #[.int .i64 x.s, .int .i64 x.p, .int .i64 x.f, .int .u8 x.b] 31)).cell? ⟨b, 1, none⟩ = some (.int .i64 p) from ⟨(cell_alloc_lt (block_lt_cell hb.1)).trans hb.1, (cell_alloc_lt (block_lt_cell hb.2)).trans hb.2⟩)
  clear hb
  rcases (show (x.s ≠ s) ∨ (x.s = s ∧ x.p ≠ p) ∨ (x.s = s ∧ x.p = p) by omega) with h | ⟨h, h2⟩ | ⟨h, h2⟩
  · have t0 : (x.s == s) = false := by simpa using h
    clear h
    rw [t0, Bool.false_and]
    go_enter Try.func43, Try.ntmps43
    go_wp2
    go_region_held3 (fun w' => w'.cell? ⟨w.heap.size, 0, none⟩ = some (.int .i64 x.s) ∧ w'.cell? ⟨w.heap.size, 1, none⟩ = some (.int .i64 x.p) ∧ w'.cell? ⟨w.heap.size, 2, none⟩ = some (.int .i64 x.f) ∧ w'.cell? ⟨w.heap.size, 3, none⟩ = some (.int .u8 x.b) ∧ w'.cell? ⟨b, 0, none⟩ = some (.int .i64 s) ∧ w'.cell? ⟨b, 1, none⟩ = some (.int .i64 p))
      ((refine s6 ?_ HX.out HY.out; first | ((repeat (first | exact Keep.refl _ _ | exact Keep.refl _ _ | refine Keep.drew ?_ | refine Keep.drewN ?_ _ | refine Keep.alloc ?_ _ | refine Keep.setNew ?_ (by omega) _)); done) | ((repeat (first | exact HK5.out | exact Keep.refl _ _ | refine Keep.drew ?_ | refine Keep.drewN ?_ _ | refine Keep.alloc ?_ _ | refine Keep.setNew ?_ (by omega) _)); done)))
      (first | (go_at_call 28; refine (of_any x _).mono ?_; rintro e w5 ⟨rfl, hk5⟩; have HK5 : Hid (Keep (fun _ => False) (w.alloc (.cells #[.int .i64 x.s, .int .i64 x.p, .int .i64 x.f, .int .u8 x.b] 31)) w5) := Keep.trans (by (repeat (first | exact Keep.refl _ _ | exact Keep.refl _ _ | refine Keep.drew ?_ | refine Keep.drewN ?_ _ | refine Keep.alloc ?_ _ | refine Keep.setNew ?_ (by omega) _)); done) hk5; clear hk5) | fail)
    all_goals
      go_wp2
      go_ret
      exact ⟨rfl, KB.out.trans HK5.out⟩
  · have t0 : (x.s == s) = true := by simpa using h
    have t1 : (x.p == p) = false := by simpa using h2
    clear h h2
    rw [t0, t1, Bool.true_and]
    go_enter Try.func43, Try.ntmps43
    go_wp2
    go_region_held3 (fun w' => w'.cell? ⟨w.heap.size, 0, none⟩ = some (.int .i64 x.s) ∧ w'.cell? ⟨w.heap.size, 1, none⟩ = some (.int .i64 x.p) ∧ w'.cell? ⟨w.heap.size, 2, none⟩ = some (.int .i64 x.f) ∧ w'.cell? ⟨w.heap.size, 3, none⟩ = some (.int .u8 x.b) ∧ w'.cell? ⟨b, 0, none⟩ = some (.int .i64 s) ∧ w'.cell? ⟨b, 1, none⟩ = some (.int .i64 p))
      ((refine s6 ?_ HX.out HY.out; first | ((repeat (first | exact Keep.refl _ _ | exact Keep.refl _ _ | refine Keep.drew ?_ | refine Keep.drewN ?_ _ | refine Keep.alloc ?_ _ | refine Keep.setNew ?_ (by omega) _)); done) | ((repeat (first | exact HK5.out | exact Keep.refl _ _ | refine Keep.drew ?_ | refine Keep.drewN ?_ _ | refine Keep.alloc ?_ _ | refine Keep.setNew ?_ (by omega) _)); done)))
      (first | (go_at_call 28; refine (of_any x _).mono ?_; rintro e w5 ⟨rfl, hk5⟩; have HK5 : Hid (Keep (fun _ => False) (w.alloc (.cells #[.int .i64 x.s, .int .i64 x.p, .int .i64 x.f, .int .u8 x.b] 31)) w5) := Keep.trans (by (repeat (first | exact Keep.refl _ _ | exact Keep.refl _ _ | refine Keep.drew ?_ | refine Keep.drewN ?_ _ | refine Keep.alloc ?_ _ | refine Keep.setNew ?_ (by omega) _)); done) hk5; clear hk5) | fail)
    all_goals
      go_wp2
      go_ret
      exact ⟨rfl, KB.out.trans HK5.out⟩
  · have t0 : (x.s == s) = true := by simpa using h
    have t1 : (x.p == p) = true := by simpa using h2
    clear h h2
    rw [t0, t1, Bool.true_and]
    go_enter Try.func43, Try.ntmps43
    go_wp2
    go_region_held3 (fun w' => w'.cell? ⟨w.heap.size, 0, none⟩ = some (.int .i64 x.s) ∧ w'.cell? ⟨w.heap.size, 1, none⟩ = some (.int .i64 x.p) ∧ w'.cell? ⟨w.heap.size, 2, none⟩ = some (.int .i64 x.f) ∧ w'.cell? ⟨w.heap.size, 3, none⟩ = some (.int .u8 x.b) ∧ w'.cell? ⟨b, 0, none⟩ = some (.int .i64 s) ∧ w'.cell? ⟨b, 1, none⟩ = some (.int .i64 p))
      ((refine s6 ?_ HX.out HY.out; first | ((repeat (first | exact Keep.refl _ _ | exact Keep.refl _ _ | refine Keep.drew ?_ | refine Keep.drewN ?_ _ | refine Keep.alloc ?_ _ | refine Keep.setNew ?_ (by omega) _)); done) | ((repeat (first | exact HK5.out | exact Keep.refl _ _ | refine Keep.drew ?_ | refine Keep.drewN ?_ _ | refine Keep.alloc ?_ _ | refine Keep.setNew ?_ (by omega) _)); done)))
      (first | (go_at_call 28; refine (of_any x _).mono ?_; rintro e w5 ⟨rfl, hk5⟩; have HK5 : Hid (Keep (fun _ => False) (w.alloc (.cells #[.int .i64 x.s, .int .i64 x.p, .int .i64 x.f, .int .u8 x.b] 31)) w5) := Keep.trans (by (repeat (first | exact Keep.refl _ _ | exact Keep.refl _ _ | refine Keep.drew ?_ | refine Keep.drewN ?_ _ | refine Keep.alloc ?_ _ | refine Keep.setNew ?_ (by omega) _)); done) hk5; clear hk5) | fail)
    all_goals
      go_wp2
      go_ret
      exact ⟨rfl, KB.out.trans HK5.out⟩

/-- The first one of a space's page. -/
def hit (x : Rv) (s p : Int) : Bool := x.s == s && x.p == p
def whN (L : List Rv) (s p : Int) : Nat → Nat → Int
  | _, 0 => -1
  | i, n + 1 => if hit (L.getD i rv0) s p = true then i else whN L s p (i + 1) n
def whI (L : List Rv) (s p : Int) : Int := whN L s p 0 L.length
theorem whN_hit {L : List Rv} {s p : Int} {i n : Nat} (h0 : 0 < n) (hi : i < L.length) (h : hit L[i] s p = true) : whN L s p i n = i := by
  obtain ⟨m, rfl⟩ : ∃ m, n = m + 1 := ⟨n - 1, by omega⟩
  simp [whN, hi, h]
theorem whN_miss {L : List Rv} {s p : Int} {i n : Nat} (h0 : 0 < n) (hi : i < L.length) (h : hit L[i] s p = false) : whN L s p i n = whN L s p (i + 1) (n - 1) := by
  obtain ⟨m, rfl⟩ : ∃ m, n = m + 1 := ⟨n - 1, by omega⟩
  simp [whN, hi, h]
set_option maxHeartbeats 1000000 in
theorem index_any (B b : Nat) (v : Value) (L : List Rv) (s p : Int) (w : World) (hv : OwnL rvE w B 31 v L) (hl : L.length ≤ 200) (hb : w.cell? ⟨b, 0, none⟩ = some (.int .i64 s) ∧ w.cell? ⟨b, 1, none⟩ = some (.int .i64 p)) :
    Calls Try.prog 42 #[v, .func (.func 43) #[] #[.pointer (some ⟨b, 0, none⟩)]] w fun e w' => e = .returned (.int .i64 (whI L s p)) ∧ Keep (fun _ => False) w w' := by
  rcases hv.any with ⟨rfl, rfl⟩ | ⟨q, cap, rfl, hBg, hcap, hmax, hgl⟩
  · go_enter Try.func42, Try.ntmps42
    go_wp2
    refine wp_loop_once ?_
    go_wp2
    go_ret
    exact ⟨rfl, Keep.refl _ _⟩
  · go_enter Try.func42, Try.ntmps42
    go_wp2
    go_loopw [8] (fun i wr => ∃ k : Nat, k ≤ L.length ∧ i = .int .i64 k ∧ whI L s p = whN L s p k (L.length - k) ∧ Keep (fun _ => False) w wr) (fun i _ => L.length - (intOf i).toNat)
    case atStart => exact ⟨0, by omega, rfl, rfl, Keep.refl _ _⟩
    case round =>
      obtain ⟨k, hk, rfl, hr, hkeep⟩ := hrel
      have HR := Lib.hid hr
      have HK := Lib.hid hkeep
      clear hr hkeep
      by_cases hlt : k < L.length
      · obtain ⟨c0, c1, c2, c3⟩ := rv_cells (hv.keep HK.out (fun _ _ => id)) hlt
        have hb2 : wr.cell? ⟨b, 0, none⟩ = some (.int .i64 s) ∧ wr.cell? ⟨b, 1, none⟩ = some (.int .i64 p) := ⟨(HK.out.cell (block_lt_cell hb.1) id).trans hb.1, (HK.out.cell (block_lt_cell hb.2) id).trans hb.2⟩
        obtain ⟨t, ht⟩ : ∃ t, hit L[k] s p = t := ⟨_, rfl⟩
        have HT : Hid ((L[k].s == s && L[k].p == p) = t) := ht
        cases t with
        | true =>
          have hF : Hid (whI L s p = k) := by rw [Hid, HR.out, whN_hit (by omega) hlt ht]
          clear ht
          go_wp2_with (go_at_call 43; refine (test2_any _ s p b _ hb2).mono ?_; rw [HT.out]; rintro e w3 ⟨rfl, hk3⟩; have HK3 := Lib.hid (HK.out.trans hk3); clear hk3)
          go_ret
          exact ⟨ret_int hF.out.symm, HK3.out⟩
        | false =>
          have hF : Hid (whI L s p = whN L s p (k + 1) (L.length - (k + 1))) := by rw [Hid, HR.out, whN_miss (by omega) hlt ht, Nat.sub_sub]
          clear ht
          go_wp2_with (go_at_call 43; refine (test2_any _ s p b _ hb2).mono ?_; rw [HT.out]; rintro e w3 ⟨rfl, hk3⟩; have HK3 := Lib.hid (HK.out.trans hk3); clear hk3)
          go_roundw
          case rel => exact ⟨k + 1, by omega, by go_num, hF.out, HK3.out⟩
          case measure => simp [intOf]; omega
      · go_wp2
        go_ret
        have e1 : whI L s p = -1 := by rw [HR.out, show L.length - k = 0 by omega]; rfl
        exact ⟨ret_int e1.symm, HK.out⟩

def i64R (y : Int) : Prop := -9223372036854775808 ≤ y ∧ y < 9223372036854775808
set_option maxHeartbeats 1000000 in
theorem where_any (B p : Nat) (v : Value) (L : List Rv) (s y : Int) (hy : i64R y) (hl : L.length ≤ 200) (w : World) (hR : RepR w B p v L) :
    Calls Try.prog 31 #[.pointer (some ⟨p, 0, none⟩), .int .i64 s, .int .i64 y] w fun e w' => e = .returned (.int .i64 (whI L s (y / 8 * 8))) ∧ Keep (fun _ => False) w w' := by
  have hc0 := hR.c0
  have hpl := block_lt hR.hp
  have HY := Lib.hid hy
  have HLL := Lib.hid hl
  obtain ⟨z, hz⟩ : ∃ z, y / 8 * 8 = z := ⟨_, rfl⟩
  have HDN : Hid (∀ W, Calls Try.prog 35 #[.int .i64 y, .int .i64 3] W fun e w' => e = .returned (.int .i64 z) ∧ W = w') := fun W => by rw [← hz]; exact (down_int y hy W).mono fun e w' h => ⟨h.1, h.2.symm⟩
  rw [hz]
  have KB : Hid (Keep (fun _ => False) w (w.alloc (.cells #[.int .i64 s, .int .i64 z] 67))) := (Keep.refl _ _).alloc _
  have HB := Lib.hid (cells2 (heap_alloc_new w (.cells #[.int .i64 s, .int .i64 z] 67)))
  clear hy hl hz
  go_enter Try.func31, Try.ntmps31
  go_wp2_with (first | (go_at_call 35; refine (HDN.out _).mono ?_; rintro e w1 ⟨rfl, rfl⟩) | (go_at_call 42; go_loud (refine (index_any B w.heap.size v L s z _ (hR.hv.keep KB.out (fun _ _ => id)) HLL.out HB.out).mono ?_; rintro e w2 ⟨rfl, hk2⟩)))
  go_ret
  exact ⟨rfl, KB.out.trans hk2⟩

end Go.Proofs.Ytmbgebmhdofdaaa
