/- Compounds: both, behind some calls. -/
import Derived.Test.YtdomdjfecnbenaaAG
set_option linter.unusedVariables false
set_option linter.unusedSimpArgs false
namespace Go.Proofs.Ytdomdjfecnbenaa
open Go.RowKit Go.Own

structure A2 where
  k : Int
  f : Int
def Acts2 (w : World) (la : Option Addr) (A : List A2) : Prop :=
  ∀ i (h : i < A.length), ∃ b o, la = some ⟨b, o, none⟩ ∧ w.cell? ⟨b, o + i * 2, none⟩ = some (.int .i64 A[i].k) ∧ w.cell? ⟨b, o + i * 2 + 1, none⟩ = some (.int .i64 A[i].f) ∧ A[i].f < 9223372036854775808

theorem acts2_of_rows {w : World} {la : Option Addr} {l : Nat} (h : RowsAt w la l [.int .i64, .int .i64]) : ∃ A : List A2, A.length = l ∧ Acts2 w la A := by
  have h2 : ∀ i, i < l → ∃ x : A2, ∃ b o, la = some ⟨b, o, none⟩ ∧ w.cell? ⟨b, o + i * 2, none⟩ = some (.int .i64 x.k) ∧ w.cell? ⟨b, o + i * 2 + 1, none⟩ = some (.int .i64 x.f) ∧ x.f < 9223372036854775808 := by
    intro i hi
    obtain ⟨b, o, cs, ha, hf, hc⟩ := h i hi
    have hl := hf.length
    obtain ⟨c0, c1, rfl⟩ : ∃ c0 c1, cs = [c0, c1] := by
      rcases cs with _ | ⟨c0, _ | ⟨c1, _ | ⟨c2, cs⟩⟩⟩ <;> simp at hl
      exact ⟨c0, c1, rfl⟩
    obtain ⟨⟨f, rfl, _⟩, ⟨n, rfl, hw⟩, _⟩ := hf
    have h0 := hc 0 (by decide)
    have h1 := hc 1 (by decide)
    simp only [List.length_cons, List.length_nil, Nat.reduceAdd, Nat.add_zero, ← Nat.add_assoc, List.getElem?_cons_zero, List.getElem?_cons_succ] at h0 h1
    have := wf64 hw
    exact ⟨⟨f, n⟩, b, o, ha, h0, h1, by show n < _; omega⟩
  haveI : Inhabited A2 := ⟨⟨0, 0⟩⟩
  obtain ⟨F, hF⟩ := Deep.choose_lt h2
  exact ⟨(List.range l).map F, by simp, fun i hi => by
    have := hF i (by simpa using hi)
    simpa using this⟩
theorem Acts2.keep {w w' : World} {la : Option Addr} {A : List A2} (h : Acts2 w la A) (k : Keep (fun _ => False) w w') : Acts2 w' la A := by
  intro i hi
  obtain ⟨b, o, h1, h2, h3, h4⟩ := h i hi
  exact ⟨b, o, h1, (k.cell (block_lt_cell h2) id).trans h2, (k.cell (block_lt_cell h3) id).trans h3, h4⟩

def MadeC (w : World) (e : Ending) (w' : World) : Prop := ∃ p q, e = .returned (.tuple #[.pointer (some ⟨p, 0, none⟩), .pointer (some ⟨q, 0, none⟩), .bool true]) ∧ Two w' w.heap.size p q 80 ∧ Keep (fun _ => False) w w'

set_option maxRecDepth 100000 in
set_option maxHeartbeats 2000000 in
theorem made_any (la : Option Addr) (A : List A2) (c : Nat) (w : World) (hA : Acts2 w la A) : Calls Try.prog 13 #[.slice la A.length c] w (MadeC w) := by
  have H1 := Lib.hid hA
  clear hA
  go_enter Try.func13, Try.ntmps13
  go_wp2_with (go_at_call 8; refine (new_any w.heap.size _ (Nat.le_refl _)).mono ?_; rintro e w1 ⟨p, rfl, hC, hp, hk⟩; have HC := Lib.hid hC; have HK := Lib.hid hk; clear hC hk)
  have HB : Hid (Two (w1.alloc (.cells #[.slice none 0 0, .int .i64 0] 43)) w.heap.size p w1.heap.size 0) :=
    ⟨.slice none 0 0, .slice none 0 0, .slice none 0 0, [], [], [], 0, HC.out.keep0 ((Keep.refl _ _).alloc _),
      ⟨heap_alloc_new w1 _, OwnL.nil _ _ _, by simp, by simp [Value.ownBlock], by simp, by simp, by simp, by simp, by omega⟩, Inv.start, by simp, by simp, by simp, hp, HK.out.size⟩
  have HKW : Hid (Keep (fun _ => False) w (w1.alloc (.cells #[.slice none 0 0, .int .i64 0] 43))) := HK.out.alloc _
  obtain ⟨q, hq⟩ : ∃ q, w1.heap.size = q := ⟨_, rfl⟩
  rw [hq] at HB ⊢
  generalize w1.alloc (.cells #[.slice none 0 0, .int .i64 0] 43) = w2 at HB HKW ⊢
  clear hq HC HK
  go_loopw [7] (fun i wr => ∃ k : Nat, k ≤ A.length ∧ k ≤ 80 ∧ i = .int .i64 k ∧ Two wr w.heap.size p q k ∧ Keep (fun _ => False) w wr) (fun i _ => A.length - (intOf i).toNat)
  case atStart => exact ⟨0, by omega, by omega, rfl, HB.out, HKW.out⟩
  case round =>
    obtain ⟨k, hk, h80, rfl, hT, hkeep⟩ := hrel
    have HT := Lib.hid hT
    have HKW := Lib.hid hkeep
    clear hT hkeep
    by_cases hlt : k < A.length
    · by_cases h80 : k < 80
      · obtain ⟨b, o, rfl, c1, c2, hf⟩ := H1.out k hlt
        have d1 := (HKW.out.cell (block_lt_cell c1) id).trans c1
        have d2 := (HKW.out.cell (block_lt_cell c2) id).trans c2
        have HF := Lib.hid hf
        clear c1 c2 hf
        go_wp2_with (go_at_call 31; refine (do_any A[k].k A[k].f HT.out (by omega) HKW.out.size HF.out).mono ?_; rintro e w4 ⟨rfl, hk4, hT4⟩; have HT4 := Lib.hid hT4; have HK4 := Lib.hid (KB.fresh HKW.out hk4); clear hT4 hk4)
        go_roundw
        case rel => exact ⟨k + 1, by omega, by omega, by go_num, HT4.out, HK4.out⟩
        case measure => simp [intOf]; omega
      · go_wp2
        go_ret3
        exact ⟨p, q, rfl, HT.out.up (by omega), HKW.out⟩
    · go_wp2
      all_goals
        go_ret3
        exact ⟨p, q, rfl, HT.out.up (by omega), HKW.out⟩

end Go.Proofs.Ytdomdjfecnbenaa
