/- Buddy: the reference: All, set, Free. -/
import Derived.Test.YtnjcchgbkemekaaW
set_option linter.unusedVariables false
set_option linter.unusedSimpArgs false
namespace Go.Proofs.Ytnjcchgbkemekaa
open Go.RowKit Go.Own

/-- A row of truths. -/
def MetN (w : World) (q n : Nat) (M : Nat → Bool) : Prop := ∃ C : Array Value, w.heap[q]? = some (.cells C 4 (0, 0)) ∧ C.size = n ∧ ∀ i, i < n → C[i]? = some (.bool (M i))
theorem MetN.cell {w : World} {q n i : Nat} {M : Nat → Bool} (h : MetN w q n M) (hi : i < n) : w.cell? ⟨q, i, none⟩ = some (.bool (M i)) := by
  obtain ⟨C, h1, _, h3⟩ := h
  rw [cell_block h1, h3 i hi]
theorem MetN.frozen {w : World} {q n : Nat} {M : Nat → Bool} (h : MetN w q n M) (i : Nat) : w.frozen? ⟨q, i, none⟩ = false := by
  obtain ⟨C, h1, _, _⟩ := h
  exact frozen_block h1
theorem MetN.lt {w : World} {q n : Nat} {M : Nat → Bool} (h : MetN w q n M) : q < w.heap.size := by
  obtain ⟨C, h1, _, _⟩ := h
  exact block_lt h1
theorem MetN.keep {w w' : World} {q n : Nat} {M : Nat → Bool} {S : Nat → Prop} (h : MetN w q n M) (k : Keep S w w') (hS : ¬ S q) : MetN w' q n M := by
  have hl := h.lt
  obtain ⟨C, h1, h2⟩ := h
  exact ⟨C, (k.block q hl hS).trans h1, h2⟩
theorem MetN.set {w : World} {q n i : Nat} {M : Nat → Bool} (b : Bool) (h : MetN w q n M) : MetN (w.setCell ⟨q, i, none⟩ (.bool b)) q n (fun x => if x = i then b else M x) := by
  obtain ⟨C, h1, h2, h3⟩ := h
  refine ⟨_, heap_setCell_eq h1, by simpa using h2, fun x hx => ?_⟩
  by_cases he : x = i
  · subst he; simp [h2, hx]
  · rw [Array.getElem?_setIfInBounds_ne (Ne.symm he), h3 x hx]; simp [he]
theorem MetN.congr {w : World} {q n : Nat} {M M' : Nat → Bool} (h : MetN w q n M) (e : ∀ i, i < n → M i = M' i) : MetN w q n M' := by
  obtain ⟨C, h1, h2, h3⟩ := h
  exact ⟨C, h1, h2, fun i hi => by rw [h3 i hi, e i hi]⟩
/-- The reference's object. -/
def RX (w : World) (x g n : Nat) (F : Nat → Bool) : Prop := w.heap[x]? = some (.cells #[.slice (some ⟨g, 0, none⟩) n n] 52 (0, 0)) ∧ MetN w g n F
theorem RX.c0 {w : World} {x g n : Nat} {F : Nat → Bool} (h : RX w x g n F) : w.cell? ⟨x, 0, none⟩ = some (.slice (some ⟨g, 0, none⟩) n n) := by rw [cell_block h.1]; rfl
theorem RX.ne {w : World} {x g n : Nat} {F : Nat → Bool} (h : RX w x g n F) : x ≠ g := by
  obtain ⟨h1, C, h2, _⟩ := h
  exact typ_ne h1 h2 (by decide)
theorem RX.keep {w w' : World} {x g n : Nat} {F : Nat → Bool} {S : Nat → Prop} (h : RX w x g n F) (k : Keep S w w') (hx : ¬ S x) (hg : ¬ S g) : RX w' x g n F :=
  ⟨(k.block x (block_lt h.1) hx).trans h.1, h.2.keep k hg⟩

/-- Are all of a block's frames as said? -/
def allB (F : Nat → Bool) (n f P : Nat) (b : Bool) : Prop := ∀ i, i < P → f + i < n ∧ F (f + i) = b
set_option maxHeartbeats 1000000 in
theorem rall_any {w : World} {x g n f k : Nat} {F : Nat → Bool} (b : Bool) (h : RX w x g n F) (hn : n ≤ 1024) (hk : k ≤ 8) (hf : f ≤ 5000) :
    Calls Try.prog 45 #[.pointer (some ⟨x, 0, none⟩), .int .i64 (f : Int), .int .i64 (k : Int), .bool b] w fun e w' => w' = w ∧ ((allB F n f (2 ^ k) b ∧ e = .returned (.bool true)) ∨ (¬ allB F n f (2 ^ k) b ∧ e = .returned (.bool false))) := by
  have c0 := h.c0
  have HM := Lib.hid h.2
  obtain ⟨P, hP⟩ : ∃ P, 2 ^ k = P := ⟨_, rfl⟩
  have HSZ : Hid (∀ W, Calls Try.prog 14 #[.int .i64 (k : Int)] W fun e w' => e = .returned (.int .i64 (P : Int)) ∧ w' = W) := fun W => by
    rw [← hP, show ((2 ^ k : Nat) : Int) = (2 : Int) ^ k by simp]; exact size_any k hk W
  have hP1 : 1 ≤ P ∧ P ≤ 256 := by
    rw [← hP]
    exact ⟨p2 k, by have := Nat.pow_le_pow_right (n := 2) (by decide) hk; omega⟩
  rw [hP]
  have HPP := Lib.hid hP1
  have HN := Lib.hid hn
  clear h hP hP1 hn hk
  go_enter Try.func45, Try.ntmps45
  go_wp2
  go_loopw [9] (fun i wr => ∃ j : Nat, j ≤ P ∧ i = .int .i64 (j : Int) ∧ wr = w ∧ ∀ z, z < j → f + z < n ∧ F (f + z) = b) (fun i _ => P - (intOf i).toNat)
  case atStart => exact ⟨0, by omega, rfl, rfl, fun z hz => absurd hz (Nat.not_lt_zero _)⟩
  case round =>
    obtain ⟨j, hj, rfl, rfl, hz⟩ := hrel
    have HZ := Lib.hid hz
    clear hz
    by_cases hjP : j < P
    · obtain ⟨v, hv⟩ : ∃ v, f + j = v := ⟨_, rfl⟩
      have hpp := HPP.out
      have j1 : (j : Int) < (P : Int) := by omega
      have j2 : (j : Int) < 256 := by omega
      have hwv : IntKind.i64.wrap ((f : Int) + (j : Int)) = (v : Int) := by rw [← hv]; exact IntWalk.i64_in _ (by omega)
      have v0 : (0 : Int) ≤ v := Int.natCast_nonneg v
      by_cases hvn : v < n
      · have v1 : (v : Int) < n := by omega
        have v2 : ¬ n ≤ v := by omega
        have cm := HM.out.cell hvn
        have HV := Lib.hid hv
        have HVN := Lib.hid hvn
        cases hF : F v with
        | true =>
          rw [hF] at cm
          have HF := Lib.hid hF
          clear hF hv hpp
          cases b with
          | true =>
            go_wp2_with (go_at_call 14; refine (HSZ.out _).mono ?_; rintro e w6 ⟨rfl, rfl⟩)
            go_roundw
            case rel => exact ⟨j + 1, by omega, by go_num, trivial, fun z e1 => by
              by_cases h : z < j
              · exact HZ.out z h
              · obtain rfl : z = j := by omega
                rw [HV.out]; exact ⟨HVN.out, HF.out⟩⟩
            case measure => simp [intOf]; omega
          | false =>
            go_wp2_with (go_at_call 14; refine (HSZ.out _).mono ?_; rintro e w6 ⟨rfl, rfl⟩)
            go_ret
            exact ⟨rfl, .inr ⟨fun h => absurd (h j hjP).2 (by rw [HV.out, HF.out]; decide), rfl⟩⟩
        | false =>
          rw [hF] at cm
          have HF := Lib.hid hF
          clear hF hv hpp
          cases b with
          | false =>
            go_wp2_with (go_at_call 14; refine (HSZ.out _).mono ?_; rintro e w6 ⟨rfl, rfl⟩)
            go_roundw
            case rel => exact ⟨j + 1, by omega, by go_num, trivial, fun z e1 => by
              by_cases h : z < j
              · exact HZ.out z h
              · obtain rfl : z = j := by omega
                rw [HV.out]; exact ⟨HVN.out, HF.out⟩⟩
            case measure => simp [intOf]; omega
          | true =>
            go_wp2_with (go_at_call 14; refine (HSZ.out _).mono ?_; rintro e w6 ⟨rfl, rfl⟩)
            go_ret
            exact ⟨rfl, .inr ⟨fun h => absurd (h j hjP).2 (by rw [HV.out, HF.out]; decide), rfl⟩⟩
      · have v1 : ¬ (v : Int) < n := by omega
        have v2 : n ≤ v := by omega
        have HV := Lib.hid hv
        clear hv hpp
        go_wp2_with (go_at_call 14; refine (HSZ.out _).mono ?_; rintro e w6 ⟨rfl, rfl⟩)
        go_ret
        exact ⟨rfl, .inr ⟨fun h => absurd (h j hjP).1 (by rw [HV.out]; exact hvn), rfl⟩⟩
    · have j1 : ¬ (j : Int) < (P : Int) := by omega
      obtain rfl : j = P := by omega
      go_wp2_with (go_at_call 14; refine (HSZ.out _).mono ?_; rintro e w6 ⟨rfl, rfl⟩)
      go_ret
      exact ⟨rfl, .inl ⟨HZ.out, rfl⟩⟩

/-- What is set. -/
def putB (F : Nat → Bool) (k f : Nat) (b : Bool) : Nat → Bool := fun i => if f ≤ i ∧ i < f + 2 ^ k then b else F i
theorem putB_true (F : Nat → Bool) (k f : Nat) : putB F k f true = addB F k f := by
  funext i
  unfold putB addB
  by_cases h : f ≤ i ∧ i < f + 2 ^ k
  · rw [if_pos h]; simp [h.1, h.2]
  · rw [if_neg h]
    cases hF : F i with
    | true => simp
    | false => simp; omega
theorem putB_false (F : Nat → Bool) (k f : Nat) : putB F k f false = subB F k f := by
  funext i
  unfold putB subB
  by_cases h : f ≤ i ∧ i < f + 2 ^ k
  · rw [if_pos h]; simp [h.1, h.2]
  · rw [if_neg h]
    cases hF : F i with
    | false => simp
    | true => simp; omega
set_option maxHeartbeats 1000000 in
theorem rset_any {w : World} {x g n f k : Nat} {F : Nat → Bool} (b : Bool) (h : RX w x g n F) (hn : n ≤ 1024) (hk : k ≤ 8) (hf : f + 2 ^ k ≤ n) :
    Calls Try.prog 46 #[.pointer (some ⟨x, 0, none⟩), .int .i64 (f : Int), .int .i64 (k : Int), .bool b] w fun e w' => e = .returned (.tuple #[]) ∧ RX w' x g n (putB F k f b) ∧ Keep (fun z => z = g) w w' := by
  have hne := h.ne
  have HR := Lib.hid h
  obtain ⟨P, hP⟩ : ∃ P, 2 ^ k = P := ⟨_, rfl⟩
  have HSZ : Hid (∀ W, Calls Try.prog 14 #[.int .i64 (k : Int)] W fun e w' => e = .returned (.int .i64 (P : Int)) ∧ w' = W) := fun W => by
    rw [← hP, show ((2 ^ k : Nat) : Int) = (2 : Int) ^ k by simp]; exact size_any k hk W
  have hP1 : 1 ≤ P ∧ P ≤ 256 := by
    rw [← hP]
    exact ⟨p2 k, by have := Nat.pow_le_pow_right (n := 2) (by decide) hk; omega⟩
  unfold putB
  rw [hP] at hf ⊢
  have HPP := Lib.hid (And.intro hP1 (And.intro hf hn))
  have HNE := Lib.hid hne
  clear h hP hP1 hn hk hne hf
  go_enter Try.func46, Try.ntmps46
  go_wp2
  go_loopw [8] (fun i wr => ∃ j : Nat, j ≤ P ∧ i = .int .i64 (j : Int) ∧ RX wr x g n (fun i => if f ≤ i ∧ i < f + j then b else F i) ∧ Keep (fun z => z = g) w wr) (fun i _ => P - (intOf i).toNat)
  case atStart => exact ⟨0, by omega, rfl, ⟨HR.out.1, HR.out.2.congr fun i _ => by rw [if_neg (by omega)]⟩, Keep.refl _ _⟩
  case round =>
    obtain ⟨j, hj, rfl, hI, hk⟩ := hrel
    have HI := Lib.hid hI
    have HK := Lib.hid hk
    clear hI hk
    by_cases hjP : j < P
    · obtain ⟨v, hv⟩ : ∃ v, f + j = v := ⟨_, rfl⟩
      have hpp := HPP.out
      have j1 : (j : Int) < (P : Int) := by omega
      have j2 : (j : Int) < 256 := by omega
      have hwv : IntKind.i64.wrap ((f : Int) + (j : Int)) = (v : Int) := by rw [← hv]; exact IntWalk.i64_in _ (by omega)
      have v0 : (0 : Int) ≤ v := Int.natCast_nonneg v
      have v1 : (v : Int) < n := by omega
      have hvn : v < n := by omega
      have c0 := HI.out.c0
      have cm := HI.out.2.cell hvn
      have fr := HI.out.2.frozen v
      have HV := Lib.hid hv
      clear hv hpp hvn
      go_wp2_with (go_at_call 14; refine (HSZ.out _).mono ?_; rintro e w6 ⟨rfl, rfl⟩)
      go_roundw
      case rel => exact ⟨j + 1, by omega, by go_num, ⟨by rw [heap_setCell_ne HNE.out]; exact HI.out.1, (HI.out.2.set b).congr fun i _ => by
        have := HV.out
        by_cases h1 : i = v
        · rw [if_pos h1, if_pos (by omega)]
        · rw [if_neg h1]
          by_cases h2 : f ≤ i ∧ i < f + j
          · rw [if_pos h2, if_pos (by omega)]
          · rw [if_neg h2, if_neg (by omega)]⟩, HK.out.setCell (p := ⟨g, v, none⟩) (fun _ => rfl) _⟩
      case measure => simp [intOf]; omega
    · have j1 : ¬ (j : Int) < (P : Int) := by omega
      obtain rfl : j = P := by omega
      go_wp2_with (go_at_call 14; refine (HSZ.out _).mono ?_; rintro e w6 ⟨rfl, rfl⟩)
      first | go_ret | go_end0
      exact ⟨rfl, HI.out, HK.out⟩

end Go.Proofs.Ytnjcchgbkemekaa
