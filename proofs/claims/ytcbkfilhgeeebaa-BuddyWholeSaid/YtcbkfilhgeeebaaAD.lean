/- Buddy: the reference's Greatest. -/
import Derived.Test.YtcbkfilhgeeebaaAC
set_option linter.unusedVariables false
set_option linter.unusedSimpArgs false
namespace Go.Proofs.Ytcbkfilhgeeebaa
open Go.RowKit Go.Own

/-- The greatest order of the first j. -/
def TopI (D : List Bk) (j : Nat) (k : Int) : Prop := (∀ i (h : i < D.length), i < j → D[i].o ≤ k) ∧ ((k = -1) ∨ ∃ x, x ∈ D ∧ x.o = k)
theorem top_step {D : List Bk} {j : Nat} {k : Int} (h : TopI D j k) (hj : j < D.length) : TopI D (j + 1) (max k D[j].o) := by
  refine ⟨fun i hi hij => ?_, ?_⟩
  · by_cases e : i = j
    · subst e; exact Int.le_max_right _ _
    · exact Int.le_trans (h.1 i hi (by omega)) (Int.le_max_left _ _)
  · rcases Int.le_total k D[j].o with hl | hl
    · rw [Int.max_eq_right hl]; exact .inr ⟨_, List.getElem_mem hj, rfl⟩
    · rw [Int.max_eq_left hl]; exact h.2
theorem top_end {F : Nat → Bool} {D : List Bk} {k : Int} (h : TopI D D.length k) (hb : IsBl F D) : (∃ q b : Nat, mx F q b ∧ (∀ j a, mx F j a → j ≤ q) ∧ k = q) ∨ ((∀ q b, ¬ mx F q b) ∧ k = -1) := by
  have hle : ∀ j a, mx F j a → (j : Int) ≤ k := fun j a hm => by
    obtain ⟨i, hi, e⟩ := List.getElem_of_mem ((hb.2 ⟨(a : Int), (j : Int)⟩).mpr ⟨j, a, hm, rfl⟩)
    have := h.1 i hi hi
    rw [e] at this; exact this
  rcases h.2 with rfl | ⟨x, hx, rfl⟩
  · exact .inr ⟨fun q b hm => by have := hle q b hm; omega, rfl⟩
  · obtain ⟨q, b, hm, rfl⟩ := (hb.2 x).mp hx
    exact .inl ⟨q, b, hm, fun j a hm' => by have := hle j a hm'; simp at this; omega, rfl⟩

set_option maxRecDepth 100000 in
set_option maxHeartbeats 1000000 in
theorem rgreat_any {w : World} {x g n : Nat} {F : Nat → Bool} (h : RX w x g n F) (hn : n ≤ 1024) (hF : ∀ i, F i = true → i < n) :
    Calls Try.prog 26 #[.pointer (some ⟨x, 0, none⟩)] w fun e w' => ((∃ q b : Nat, mx F q b ∧ (∀ j a, mx F j a → j ≤ q) ∧ e = .returned (.int .i64 (q : Int))) ∨ ((∀ q b, ¬ mx F q b) ∧ e = .returned (.int .i64 (-1)))) ∧ Keep (fun _ => False) w w' := by
  have HC := Lib.hid (rblocks_any h hn hF)
  clear h hn hF
  go_enter Try.func26, Try.ntmps26
  go_wp2_with fail
  refine HC.out.mono ?_
  rintro e w1 ⟨v, D, rfl, ho, hbl, hdl, hk⟩
  obtain ⟨a, c, rfl, ha⟩ := ho.slice
  have HO := Lib.hid ho
  have HBL := Lib.hid hbl
  have HK := Lib.hid hk
  have HA := Lib.hid ha
  have HDL := Lib.hid hdl
  clear ho hbl hk ha hdl HC
  go_wp2
  go_loopw [4, 5] (fun k i w2 => ∃ (j : Nat) (kk : Int), j ≤ D.length ∧ i = .int .i64 (j : Int) ∧ k = .int .i64 kk ∧ TopI D j kk ∧ w2 = w1) (fun _ i _ => D.length - (intOf i).toNat)
  case atStart => exact ⟨0, -1, by omega, rfl, rfl, ⟨fun i _ h => absurd h (Nat.not_lt_zero _), .inl rfl⟩, rfl⟩
  case round =>
    obtain ⟨j, kk, hj, rfl, rfl, ht, rfl⟩ := hrel
    have HT := Lib.hid ht
    clear ht
    have j0 : (0 : Int) ≤ (j : Int) := Int.natCast_nonneg j
    by_cases hjl : j < D.length
    · obtain ⟨g1, rfl⟩ := HA.out (by intro e; rw [e] at hjl; simp at hjl)
      have j1 : (j : Int) < (D.length : Int) := by omega
      have hd := HDL.out
      have j2 : (j : Int) < 10000 := by omega
      obtain ⟨d0, d1⟩ := bk_cells HO.out hjl
      have HS := Lib.hid (top_step HT.out hjl)
      obtain ⟨y, hy⟩ : ∃ y, (D[j]'hjl).o = y := ⟨_, rfl⟩
      rw [hy] at d1 HS
      clear hy hd
      go_wp2
      go_roundw
      case rel => exact ⟨j + 1, _, by omega, by go_num, rfl, HS.out, trivial⟩
      case measure => simp [intOf]; omega
    · obtain rfl : j = D.length := by omega
      have hE := top_end HT.out HBL.out
      have HE := Lib.hid hE
      clear hE
      go_wp2
      go_ret
      exact ⟨HE.out.imp (fun ⟨q, b, h1, h2, h3⟩ => ⟨q, b, h1, h2, ret_int h3⟩) (fun ⟨h1, h2⟩ => ⟨h1, ret_int h2⟩), HK.out⟩

end Go.Proofs.Ytcbkfilhgeeebaa
