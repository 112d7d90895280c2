/- Compounds: where one is. -/
import Derived.Test.YtdomdjfecnbenaaA
set_option linter.unusedVariables false
set_option linter.unusedSimpArgs false
namespace Go.Proofs.Ytdomdjfecnbenaa
open Go.RowKit Go.Own

def whN (L : List Cp) (f : Int) : Nat → Nat → Int
  | _, 0 => -1
  | i, n + 1 => if (L.getD i ⟨0, 0⟩).f = f then i else whN L f (i + 1) n
/-- The place of the compound that begins at f; -1: none. -/
def whI (L : List Cp) (f : Int) : Int := whN L f 0 L.length
theorem whN_hit {L : List Cp} {f : Int} {i n : Nat} (h0 : 0 < n) (hi : i < L.length) (h : L[i].f = f) : whN L f i n = i := by
  obtain ⟨m, rfl⟩ : ∃ m, n = m + 1 := ⟨n - 1, by omega⟩
  simp [whN, hi, h]
theorem whN_miss {L : List Cp} {f : Int} {i n : Nat} (h0 : 0 < n) (hi : i < L.length) (h : L[i].f ≠ f) : whN L f i n = whN L f (i + 1) (n - 1) := by
  obtain ⟨m, rfl⟩ : ∃ m, n = m + 1 := ⟨n - 1, by omega⟩
  simp [whN, hi, h]
theorem whN_cases (L : List Cp) (f : Int) : ∀ n i, i + n = L.length → (whN L f i n = -1 ∧ ∀ j, i ≤ j → (h : j < L.length) → L[j].f ≠ f) ∨ (∃ k : Nat, whN L f i n = k ∧ i ≤ k ∧ ∃ h : k < L.length, L[k].f = f) := by
  intro n
  induction n with
  | zero => intro i h; exact .inl ⟨rfl, fun j hj hl => by omega⟩
  | succ n ih =>
    intro i h
    by_cases c : L[i].f = f
    · exact .inr ⟨i, whN_hit (by omega) (by omega) c, Nat.le_refl _, by omega, c⟩
    · rw [whN_miss (by omega) (by omega) c, Nat.succ_sub_one]
      rcases ih (i + 1) (by omega) with ⟨h1, h2⟩ | ⟨k, h1, h2, h3, h4⟩
      · refine .inl ⟨h1, fun j hj hl => ?_⟩
        by_cases e : j = i
        · subst e; exact c
        · exact h2 j (by omega) hl
      · exact .inr ⟨k, h1, by omega, h3, h4⟩
theorem whI_cases (L : List Cp) (f : Int) : (whI L f = -1 ∧ ∀ j, (h : j < L.length) → L[j].f ≠ f) ∨ (∃ k : Nat, whI L f = k ∧ ∃ h : k < L.length, L[k].f = f) := by
  rcases whN_cases L f L.length 0 (by omega) with ⟨h1, h2⟩ | ⟨k, h1, _, h3, h4⟩
  · exact .inl ⟨h1, fun j h => h2 j (by omega) h⟩
  · exact .inr ⟨k, h1, h3, h4⟩

set_option maxHeartbeats 400000 in
theorem test_any (f g : Int) (m b : Nat) (w : World) (hb : w.cell? ⟨b, 0, none⟩ = some (.int .i64 g)) :
    Calls Try.prog 38 #[.agg #[.int .i64 f, .int .u8 m], .pointer (some ⟨b, 0, none⟩)] w fun e w' => e = .returned (.bool (f == g)) ∧ Keep (fun _ => False) w w' := by
  have hb2 : (w.alloc (.cells #[.int .i64 f, .int .u8 m] 39)).cell? ⟨b, 0, none⟩ = some (.int .i64 g) := (cell_alloc_lt (block_lt_cell hb)).trans hb
  go_enter Try.func38, Try.ntmps38
  go_wp2
  go_ret
  exact ⟨rfl, (by (repeat (first | exact Keep.refl _ _ | exact Keep.refl _ _ | refine Keep.drew ?_ | refine Keep.drewN ?_ _ | refine Keep.alloc ?_ _ | refine Keep.setNew ?_ (by omega) _)); done)⟩

set_option maxHeartbeats 1000000 in
theorem index_any (B b : Nat) (v : Value) (L : List Cp) (g : Int) (w : World) (hv : OwnL cpE w B 39 v L) (hl : L.length ≤ 200) (hb : w.cell? ⟨b, 0, none⟩ = some (.int .i64 g)) :
    Calls Try.prog 37 #[v, .func (.func 38) #[] #[.pointer (some ⟨b, 0, none⟩)]] w fun e w' => e = .returned (.int .i64 (whI L g)) ∧ Keep (fun _ => False) w w' := by
  rcases hv.any with ⟨rfl, rfl⟩ | ⟨q, cap, rfl, hBg, hcap, hmax, hgl⟩
  · go_enter Try.func37, Try.ntmps37
    go_wp2
    refine wp_loop_once ?_
    go_wp2
    go_ret
    exact ⟨rfl, Keep.refl _ _⟩
  · go_enter Try.func37, Try.ntmps37
    go_wp2
    go_loopw [8] (fun i wr => ∃ k : Nat, k ≤ L.length ∧ i = .int .i64 k ∧ whI L g = whN L g k (L.length - k) ∧ Keep (fun _ => False) w wr) (fun i _ => L.length - (intOf i).toNat)
    case atStart => exact ⟨0, by omega, rfl, rfl, Keep.refl _ _⟩
    case round =>
      obtain ⟨k, hk, rfl, hr, hkeep⟩ := hrel
      have HR := Lib.hid hr
      have HK := Lib.hid hkeep
      clear hr hkeep
      by_cases hlt : k < L.length
      · obtain ⟨c0, c1⟩ := cp_cells (hv.keep HK.out (fun _ _ => id)) hlt
        have hb2 := (HK.out.cell (block_lt_cell hb) id).trans hb
        by_cases h1 : L[k].f = g
        · have h1' : (L[k].f == g) = true := by simpa using h1
          have hF : Hid (whI L g = k) := by rw [Hid, HR.out, whN_hit (by omega) hlt h1]
          clear h1
          go_wp2_with (go_at_call 38; refine (test_any _ g _ b _ hb2).mono ?_; rintro e w3 ⟨rfl, hk3⟩; have HK3 := Lib.hid (HK.out.trans hk3); clear hk3)
          go_ret
          exact ⟨ret_int hF.out.symm, HK3.out⟩
        · have h1' : (L[k].f == g) = false := by simpa using h1
          have hF : Hid (whI L g = whN L g (k + 1) (L.length - (k + 1))) := by rw [Hid, HR.out, whN_miss (by omega) hlt h1, Nat.sub_sub]
          clear h1
          go_wp2_with (go_at_call 38; refine (test_any _ g _ b _ hb2).mono ?_; rintro e w3 ⟨rfl, hk3⟩; have HK3 := Lib.hid (HK.out.trans hk3); clear hk3)
          go_roundw
          case rel => exact ⟨k + 1, by omega, by go_num, hF.out, HK3.out⟩
          case measure => simp [intOf]; omega
      · go_wp2
        go_ret
        have e1 : whI L g = -1 := by rw [HR.out, show L.length - k = 0 by omega]; rfl
        exact ⟨ret_int e1.symm, HK.out⟩

set_option maxHeartbeats 400000 in
theorem where_nil (f : Int) (w : World) : Calls Try.prog 26 #[.pointer none, .int .i64 f] w fun e w' => e = .returned (.int .i64 (-1)) ∧ w = w' := by
  go_enter Try.func26, Try.ntmps26
  go_wp2
  go_ret
  exact ⟨rfl, rfl⟩

set_option maxHeartbeats 1000000 in
theorem where_any (B p : Nat) (v u : Value) (L : List Cp) (Q : List Int) (x : Nat) (hx : x < 1024) (w : World) (hR : RepC w B p v u L Q) :
    Calls Try.prog 26 #[.pointer (some ⟨p, 0, none⟩), .int .i64 x] w fun e w' => e = .returned (.int .i64 (whI L ((x / 8 * 8 : Nat) : Int))) ∧ Keep (fun _ => False) w w' := by
  have hc0 := hR.c0
  have hpl := block_lt hR.hp
  have KB : Hid (Keep (fun _ => False) w (w.alloc (.cells #[.int .i64 ((x / 8 * 8 : Nat) : Int)] 3))) := (Keep.refl _ _).alloc _
  go_enter Try.func26, Try.ntmps26
  go_wp2_with (first | (go_at_call 36; refine (down_any x hx _).mono ?_; rintro e w1 ⟨rfl, rfl⟩) | (go_at_call 37; refine (index_any B w.heap.size v L ((x / 8 * 8 : Nat) : Int) _ (hR.hv.keep (S := fun _ => False) (by (repeat (first | exact Keep.refl _ _ | exact Keep.refl _ _ | refine Keep.drew ?_ | refine Keep.drewN ?_ _ | refine Keep.alloc ?_ _ | refine Keep.setNew ?_ (by omega) _)); done) (fun _ _ => id)) hR.hl (by simp)).mono ?_; rintro e w2 ⟨rfl, hk2⟩; have HK2 : Hid (Keep (fun _ => False) w w2) := Keep.trans (by (repeat (first | exact Keep.refl _ _ | exact Keep.refl _ _ | refine Keep.drew ?_ | refine Keep.drewN ?_ _ | refine Keep.alloc ?_ _ | refine Keep.setNew ?_ (by omega) _)); done) hk2; clear hk2))
  go_ret
  exact ⟨rfl, HK2.out⟩

end Go.Proofs.Ytdomdjfecnbenaa
