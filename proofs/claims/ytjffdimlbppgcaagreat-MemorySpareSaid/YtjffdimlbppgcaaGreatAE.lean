/- Buddy: Same; the reference's Take. -/
import Derived.Test.YtjffdimlbppgcaaGreatW
set_option linter.unusedVariables false
set_option linter.unusedSimpArgs false
namespace Go.Proofs.YtjffdimlbppgcaaGreat
open Go.RowKit Go.Own

/- Part Y: Buddy: the reference: All, set, Free. -/
/-- A row of truths. -/
def MetN (w : World) (q n : Nat) (M : Nat → Bool) : Prop := ∃ C : Array Value, w.heap[q]? = some (.cells C 4 (0, 0)) ∧ C.size = n ∧ ∀ i, i < n → C[i]? = some (.bool (M i))
theorem MetN.cell {w : World} {q n i : Nat} {M : Nat → Bool} (h : MetN w q n M) (hi : i < n) : w.cell? ⟨q, i, none⟩ = some (.bool (M i)) := by
  obtain ⟨C, h1, _, h3⟩ := h
  rw [cell_block h1, h3 i hi]
theorem MetN.frozen {w : World} {q n : Nat} {M : Nat → Bool} (h : MetN w q n M) (i : Nat) : w.frozen? ⟨q, i, none⟩ = false := by
  obtain ⟨C, h1, _, _⟩ := h
  exact frozen_block h1
theorem MetN.lt {w : World} {q n : Nat} {M : Nat → Bool} (h : MetN w q n M) : q < w.heap.size := by
  obtain ⟨C, h1, _, _⟩ := h
  exact block_lt h1
theorem MetN.keep {w w' : World} {q n : Nat} {M : Nat → Bool} {S : Nat → Prop} (h : MetN w q n M) (k : Keep S w w') (hS : ¬ S q) : MetN w' q n M := by
  have hl := h.lt
  obtain ⟨C, h1, h2⟩ := h
  exact ⟨C, (k.block q hl hS).trans h1, h2⟩
theorem MetN.set {w : World} {q n i : Nat} {M : Nat → Bool} (b : Bool) (h : MetN w q n M) : MetN (w.setCell ⟨q, i, none⟩ (.bool b)) q n (fun x => if x = i then b else M x) := by
  obtain ⟨C, h1, h2, h3⟩ := h
  refine ⟨_, heap_setCell_eq h1, by simpa using h2, fun x hx => ?_⟩
  by_cases he : x = i
  · subst he; simp [h2, hx]
  · rw [Array.getElem?_setIfInBounds_ne (Ne.symm he), h3 x hx]; simp [he]
theorem MetN.congr {w : World} {q n : Nat} {M M' : Nat → Bool} (h : MetN w q n M) (e : ∀ i, i < n → M i = M' i) : MetN w q n M' := by
  obtain ⟨C, h1, h2, h3⟩ := h
  exact ⟨C, h1, h2, fun i hi => by rw [h3 i hi, e i hi]⟩
/-- The reference's object. -/
def RX (w : World) (x g n : Nat) (F : Nat → Bool) : Prop := w.heap[x]? = some (.cells #[.slice (some ⟨g, 0, none⟩) n n] 94 (0, 0)) ∧ MetN w g n F
theorem RX.c0 {w : World} {x g n : Nat} {F : Nat → Bool} (h : RX w x g n F) : w.cell? ⟨x, 0, none⟩ = some (.slice (some ⟨g, 0, none⟩) n n) := by rw [cell_block h.1]; rfl
theorem RX.ne {w : World} {x g n : Nat} {F : Nat → Bool} (h : RX w x g n F) : x ≠ g := by
  obtain ⟨h1, C, h2, _⟩ := h
  exact typ_ne h1 h2 (by decide)
theorem RX.keep {w w' : World} {x g n : Nat} {F : Nat → Bool} {S : Nat → Prop} (h : RX w x g n F) (k : Keep S w w') (hx : ¬ S x) (hg : ¬ S g) : RX w' x g n F :=
  ⟨(k.block x (block_lt h.1) hx).trans h.1, h.2.keep k hg⟩

/-- Are all of a block's frames as said? -/
def allB (F : Nat → Bool) (n f P : Nat) (b : Bool) : Prop := ∀ i, i < P → f + i < n ∧ F (f + i) = b
set_option maxHeartbeats 1000000 in
theorem rall_any {w : World} {x g n f k : Nat} {F : Nat → Bool} (b : Bool) (h : RX w x g n F) (hn : n ≤ 1024) (hk : k ≤ 8) (hf : f ≤ 5000) :
    Calls Tryz.prog 61 #[.pointer (some ⟨x, 0, none⟩), .int .i64 (f : Int), .int .i64 (k : Int), .bool b] w fun e w' => w' = w ∧ ((allB F n f (2 ^ k) b ∧ e = .returned (.bool true)) ∨ (¬ allB F n f (2 ^ k) b ∧ e = .returned (.bool false))) := by
  have c0 := h.c0
  have HM := Lib.hid h.2
  obtain ⟨P, hP⟩ : ∃ P, 2 ^ k = P := ⟨_, rfl⟩
  have HSZ : Hid (∀ W, Calls Tryz.prog 16 #[.int .i64 (k : Int)] W fun e w' => e = .returned (.int .i64 (P : Int)) ∧ w' = W) := fun W => by
    rw [← hP, show ((2 ^ k : Nat) : Int) = (2 : Int) ^ k by simp]; exact size_any k hk W
  have hP1 : 1 ≤ P ∧ P ≤ 256 := by
    rw [← hP]
    exact ⟨p2 k, by have := Nat.pow_le_pow_right (n := 2) (by decide) hk; omega⟩
  rw [hP]
  have HPP := Lib.hid hP1
  have HN := Lib.hid hn
  clear h hP hP1 hn hk
  go_enter Tryz.func61, Tryz.ntmps61
  go_wp2
  go_loopw [9] (fun i wr => ∃ j : Nat, j ≤ P ∧ i = .int .i64 (j : Int) ∧ wr = w ∧ ∀ z, z < j → f + z < n ∧ F (f + z) = b) (fun i _ => P - (intOf i).toNat)
  case atStart => exact ⟨0, by omega, rfl, rfl, fun z hz => absurd hz (Nat.not_lt_zero _)⟩
  case round =>
    obtain ⟨j, hj, rfl, rfl, hz⟩ := hrel
    have HZ := Lib.hid hz
    clear hz
    by_cases hjP : j < P
    · obtain ⟨v, hv⟩ : ∃ v, f + j = v := ⟨_, rfl⟩
      have hpp := HPP.out
      have j1 : (j : Int) < (P : Int) := by omega
      have j2 : (j : Int) < 256 := by omega
      have hwv : IntKind.i64.wrap ((f : Int) + (j : Int)) = (v : Int) := by rw [← hv]; exact IntWalk.i64_in _ (by omega)
      have v0 : (0 : Int) ≤ v := Int.natCast_nonneg v
      by_cases hvn : v < n
      · have v1 : (v : Int) < n := by omega
        have v2 : ¬ n ≤ v := by omega
        have cm := HM.out.cell hvn
        have HV := Lib.hid hv
        have HVN := Lib.hid hvn
        cases hF : F v with
        | true =>
          rw [hF] at cm
          have HF := Lib.hid hF
          clear hF hv hpp
          cases b with
          | true =>
            go_wp2_with (go_at_call 16; refine (HSZ.out _).mono ?_; rintro e w6 ⟨rfl, rfl⟩)
            go_roundw
            case rel => exact ⟨j + 1, by omega, by go_num, trivial, fun z e1 => by
              by_cases h : z < j
              · exact HZ.out z h
              · obtain rfl : z = j := by omega
                rw [HV.out]; exact ⟨HVN.out, HF.out⟩⟩
            case measure => simp [intOf]; omega
          | false =>
            go_wp2_with (go_at_call 16; refine (HSZ.out _).mono ?_; rintro e w6 ⟨rfl, rfl⟩)
            go_ret
            exact ⟨rfl, .inr ⟨fun h => absurd (h j hjP).2 (by rw [HV.out, HF.out]; decide), rfl⟩⟩
        | false =>
          rw [hF] at cm
          have HF := Lib.hid hF
          clear hF hv hpp
          cases b with
          | false =>
            go_wp2_with (go_at_call 16; refine (HSZ.out _).mono ?_; rintro e w6 ⟨rfl, rfl⟩)
            go_roundw
            case rel => exact ⟨j + 1, by omega, by go_num, trivial, fun z e1 => by
              by_cases h : z < j
              · exact HZ.out z h
              · obtain rfl : z = j := by omega
                rw [HV.out]; exact ⟨HVN.out, HF.out⟩⟩
            case measure => simp [intOf]; omega
          | true =>
            go_wp2_with (go_at_call 16; refine (HSZ.out _).mono ?_; rintro e w6 ⟨rfl, rfl⟩)
            go_ret
            exact ⟨rfl, .inr ⟨fun h => absurd (h j hjP).2 (by rw [HV.out, HF.out]; decide), rfl⟩⟩
      · have v1 : ¬ (v : Int) < n := by omega
        have v2 : n ≤ v := by omega
        have HV := Lib.hid hv
        clear hv hpp
        go_wp2_with (go_at_call 16; refine (HSZ.out _).mono ?_; rintro e w6 ⟨rfl, rfl⟩)
        go_ret
        exact ⟨rfl, .inr ⟨fun h => absurd (h j hjP).1 (by rw [HV.out]; exact hvn), rfl⟩⟩
    · have j1 : ¬ (j : Int) < (P : Int) := by omega
      obtain rfl : j = P := by omega
      go_wp2_with (go_at_call 16; refine (HSZ.out _).mono ?_; rintro e w6 ⟨rfl, rfl⟩)
      go_ret
      exact ⟨rfl, .inl ⟨HZ.out, rfl⟩⟩

/-- What is set. -/
def putB (F : Nat → Bool) (k f : Nat) (b : Bool) : Nat → Bool := fun i => if f ≤ i ∧ i < f + 2 ^ k then b else F i
theorem putB_true (F : Nat → Bool) (k f : Nat) : putB F k f true = addB F k f := by
  funext i
  unfold putB addB
  by_cases h : f ≤ i ∧ i < f + 2 ^ k
  · rw [if_pos h]; simp [h.1, h.2]
  · rw [if_neg h]
    cases hF : F i with
    | true => simp
    | false => simp; omega
theorem putB_false (F : Nat → Bool) (k f : Nat) : putB F k f false = subB F k f := by
  funext i
  unfold putB subB
  by_cases h : f ≤ i ∧ i < f + 2 ^ k
  · rw [if_pos h]; simp [h.1, h.2]
  · rw [if_neg h]
    cases hF : F i with
    | false => simp
    | true => simp; omega
set_option maxHeartbeats 1000000 in
theorem rset_any {w : World} {x g n f k : Nat} {F : Nat → Bool} (b : Bool) (h : RX w x g n F) (hn : n ≤ 1024) (hk : k ≤ 8) (hf : f + 2 ^ k ≤ n) :
    Calls Tryz.prog 94 #[.pointer (some ⟨x, 0, none⟩), .int .i64 (f : Int), .int .i64 (k : Int), .bool b] w fun e w' => e = .returned (.tuple #[]) ∧ RX w' x g n (putB F k f b) ∧ Keep (fun z => z = g) w w' := by
  have hne := h.ne
  have HR := Lib.hid h
  obtain ⟨P, hP⟩ : ∃ P, 2 ^ k = P := ⟨_, rfl⟩
  have HSZ : Hid (∀ W, Calls Tryz.prog 16 #[.int .i64 (k : Int)] W fun e w' => e = .returned (.int .i64 (P : Int)) ∧ w' = W) := fun W => by
    rw [← hP, show ((2 ^ k : Nat) : Int) = (2 : Int) ^ k by simp]; exact size_any k hk W
  have hP1 : 1 ≤ P ∧ P ≤ 256 := by
    rw [← hP]
    exact ⟨p2 k, by have := Nat.pow_le_pow_right (n := 2) (by decide) hk; omega⟩
  unfold putB
  rw [hP] at hf ⊢
  have HPP := Lib.hid (And.intro hP1 (And.intro hf hn))
  have HNE := Lib.hid hne
  clear h hP hP1 hn hk hne hf
  go_enter Tryz.func94, Tryz.ntmps94
  go_wp2
  go_loopw [8] (fun i wr => ∃ j : Nat, j ≤ P ∧ i = .int .i64 (j : Int) ∧ RX wr x g n (fun i => if f ≤ i ∧ i < f + j then b else F i) ∧ Keep (fun z => z = g) w wr) (fun i _ => P - (intOf i).toNat)
  case atStart => exact ⟨0, by omega, rfl, ⟨HR.out.1, HR.out.2.congr fun i _ => by rw [if_neg (by omega)]⟩, Keep.refl _ _⟩
  case round =>
    obtain ⟨j, hj, rfl, hI, hk⟩ := hrel
    have HI := Lib.hid hI
    have HK := Lib.hid hk
    clear hI hk
    by_cases hjP : j < P
    · obtain ⟨v, hv⟩ : ∃ v, f + j = v := ⟨_, rfl⟩
      have hpp := HPP.out
      have j1 : (j : Int) < (P : Int) := by omega
      have j2 : (j : Int) < 256 := by omega
      have hwv : IntKind.i64.wrap ((f : Int) + (j : Int)) = (v : Int) := by rw [← hv]; exact IntWalk.i64_in _ (by omega)
      have v0 : (0 : Int) ≤ v := Int.natCast_nonneg v
      have v1 : (v : Int) < n := by omega
      have hvn : v < n := by omega
      have c0 := HI.out.c0
      have cm := HI.out.2.cell hvn
      have fr := HI.out.2.frozen v
      have HV := Lib.hid hv
      clear hv hpp hvn
      go_wp2_with (go_at_call 16; refine (HSZ.out _).mono ?_; rintro e w6 ⟨rfl, rfl⟩)
      go_roundw
      case rel => exact ⟨j + 1, by omega, by go_num, ⟨by rw [heap_setCell_ne HNE.out]; exact HI.out.1, (HI.out.2.set b).congr fun i _ => by
        have := HV.out
        by_cases h1 : i = v
        · rw [if_pos h1, if_pos (by omega)]
        · rw [if_neg h1]
          by_cases h2 : f ≤ i ∧ i < f + j
          · rw [if_pos h2, if_pos (by omega)]
          · rw [if_neg h2, if_neg (by omega)]⟩, HK.out.setCell (p := ⟨g, v, none⟩) (fun _ => rfl) _⟩
      case measure => simp [intOf]; omega
    · have j1 : ¬ (j : Int) < (P : Int) := by omega
      obtain rfl : j = P := by omega
      go_wp2_with (go_at_call 16; refine (HSZ.out _).mono ?_; rintro e w6 ⟨rfl, rfl⟩)
      first | go_ret | go_end0
      exact ⟨rfl, HI.out, HK.out⟩

/- Part Z: Buddy: the reference: Free, New. -/
theorem cnt_succ (F : Nat → Bool) (j : Nat) : cnt F (j + 1) = cnt F j + (if F j then 1 else 0) := by
  unfold cnt
  rw [List.range_succ, List.countP_append]
  simp [List.countP_cons]
set_option maxHeartbeats 1000000 in
theorem rfree_any {w : World} {x g n : Nat} {F : Nat → Bool} (h : RX w x g n F) (hn : n ≤ 1024) :
    Calls Tryz.prog 32 #[.pointer (some ⟨x, 0, none⟩)] w fun e w' => e = .returned (.int .i64 (cnt F n : Nat)) ∧ w' = w := by
  have c0 := h.c0
  have HM := Lib.hid h.2
  have HN := Lib.hid hn
  clear h hn
  go_enter Tryz.func32, Tryz.ntmps32
  go_wp2
  go_loopw [3, 4] (fun c i wr => ∃ j : Nat, j ≤ n ∧ i = .int .i64 (j : Int) ∧ (∃ s : Nat, s = cnt F j ∧ c = .int .i64 (s : Int)) ∧ wr = w) (fun _ i _ => n - (intOf i).toNat)
  case atStart => exact ⟨0, by omega, rfl, ⟨0, rfl, rfl⟩, rfl⟩
  case round =>
    obtain ⟨j, hj, rfl, ⟨s, hs, rfl⟩, rfl⟩ := hrel
    by_cases hjn : j < n
    · have hnn := HN.out
      have hsl : s ≤ j := by rw [hs]; exact cnt_le F j
      have hsc := cnt_succ F j
      rw [← hs] at hsc
      have s1 : (s : Int) < 1024 := by omega
      have s0 : (0 : Int) ≤ s := Int.natCast_nonneg s
      have j0 : (0 : Int) ≤ j := Int.natCast_nonneg j
      have j1 : (j : Int) < (n : Int) := by omega
      have j2 : (j : Int) < 1024 := by omega
      have cm := HM.out.cell hjn
      cases hF : F j with
      | true =>
        rw [hF] at cm hsc
        have HS := Lib.hid hsc
        clear hs hsc hF hnn
        go_wp2
        go_roundw
        case rel => exact ⟨j + 1, by omega, by go_num, ⟨s + 1, HS.out.symm, by go_num⟩, trivial⟩
        case measure => simp [intOf]; omega
      | false =>
        rw [hF] at cm hsc
        have HS := Lib.hid hsc
        clear hs hsc hF hnn
        go_wp2
        go_roundw
        case rel => exact ⟨j + 1, by omega, by go_num, ⟨s, HS.out.symm, rfl⟩, trivial⟩
        case measure => simp [intOf]; omega
    · have j1 : ¬ (j : Int) < (n : Int) := by omega
      obtain rfl : j = n := by omega
      have HS := Lib.hid hs
      clear hs
      go_wp2
      go_ret
      exact ⟨ret_int (by rw [HS.out]), rfl⟩

set_option maxHeartbeats 400000 in
theorem rnew_bad (n : Int) (h : n < 8 ∨ 1024 < n) (w : World) : Calls Tryz.prog 24 #[.int .i64 n] w fun e w' => e = .returned (.tuple #[.pointer none, .int .i64 2]) ∧ w' = w := by
  by_cases h1 : n < 8
  · clear h
    go_enter Tryz.func24, Tryz.ntmps24
    go_wp2
    go_ret2
    exact ⟨rfl, rfl⟩
  · have h2 : 1024 < n := by omega
    clear h
    go_enter Tryz.func24, Tryz.ntmps24
    go_wp2
    go_ret2
    exact ⟨rfl, rfl⟩
theorem rnew_start (w : World) (n : Nat) (R : Array Value) (hR : R = Array.replicate n (.bool false)) : RX ((w.alloc (.cells R 4)).alloc (.cells #[.slice (some ⟨w.heap.size, 0, none⟩) n n] 94)) (w.heap.size + 1) w.heap.size n (fun _ => false) := by
  refine ⟨?_, R, ?_, by rw [hR]; simp, fun i hi => by rw [hR]; simp [hi]⟩
  · have h := heap_alloc_new (w.alloc (.cells R 4)) (.cells #[.slice (some ⟨w.heap.size, 0, none⟩) n n] 94)
    rw [World.size_alloc] at h
    exact h
  · rw [heap_alloc_at, World.size_alloc, if_neg (by omega)]
    exact heap_alloc_new w _
set_option maxHeartbeats 1000000 in
theorem rnew_any (n : Nat) (h0 : 8 ≤ n) (h1 : n ≤ 1024) (w : World) : Calls Tryz.prog 24 #[.int .i64 (n : Int)] w fun e w' => ∃ x g, e = .returned (.tuple #[.pointer (some ⟨x, 0, none⟩), .int .i64 0]) ∧ RX w' x g n (upTo n) ∧ w.heap.size ≤ x ∧ w.heap.size ≤ g ∧ Keep (fun _ => False) w w' := by
  obtain ⟨R, hR⟩ : ∃ R, Array.replicate n (Value.bool false) = R := ⟨_, rfl⟩
  have hmk : ∀ W : World, (Instr.makeSlice 92 (.int .i64 (n : Int)) (.int .i64 (n : Int))).run Tryz.prog W = .ok (.slice (some ⟨W.heap.size, 0, none⟩) n n) (W.alloc (.cells R 4)) := fun W => by
    rw [← hR]; exact make29' n (by omega) W
  have HI0 := Lib.hid (rnew_start w n R hR.symm)
  clear hR
  have n0 : ¬ (n : Int) < 8 := by omega
  have n1 : ¬ 1024 < (n : Int) := by omega
  go_enter Tryz.func24, Tryz.ntmps24
  go_wp2
  go_loopw [5] (fun i wr => ∃ j : Nat, j ≤ n ∧ i = .int .i64 (j : Int) ∧ RX wr (w.heap.size + 1) w.heap.size n (fun i => decide (i < j)) ∧ Keep (fun _ => False) w wr) (fun i _ => n - (intOf i).toNat)
  case atStart => exact ⟨0, by omega, rfl, ⟨HI0.out.1, HI0.out.2.congr fun i _ => by simp⟩, ((Keep.refl _ _).alloc _).alloc _⟩
  case round =>
    obtain ⟨j, hj, rfl, hI, hk⟩ := hrel
    have HI := Lib.hid hI
    have HK := Lib.hid hk
    clear hI hk HI0
    by_cases hjn : j < n
    · have j0 : (0 : Int) ≤ j := Int.natCast_nonneg j
      have j1 : (j : Int) < (n : Int) := by omega
      have j2 : (j : Int) < 1024 := by omega
      have c0 := HI.out.c0
      have cm := HI.out.2.cell hjn
      have fr := HI.out.2.frozen j
      go_wp2
      go_roundw
      case rel => exact ⟨j + 1, by omega, by go_num, ⟨by rw [heap_setCell_ne (by simp)]; exact HI.out.1, (HI.out.2.set true).congr fun i _ => by
        by_cases h1 : i = j
        · rw [if_pos h1]; simp [h1]
        · rw [if_neg h1]
          by_cases h2 : i < j
          · simp [h2]; omega
          · simp [h2]; omega⟩, HK.out.setNew (Nat.le_refl _) _⟩
      case measure => simp [intOf]; omega
    · have j1 : ¬ (j : Int) < (n : Int) := by omega
      obtain rfl : j = n := by omega
      go_wp2
      go_ret2
      exact ⟨_, rfl, _, HI.out, Nat.le_succ _, Nat.le_refl _, HK.out⟩

/- Part AA: Buddy: the reference: Change. -/
theorem tmod_run (f : Int) (P : Nat) (h : 1 ≤ P ∧ P ≤ 256) (r : Int) (hr : Int.tmod f P = r) (W : World) : Sem.run Tryz.prog (binOp .rem 3 (.int .i64 f) (.int .i64 (P : Int))) W = Result.ok (.int .i64 r) W := by
  have a7 : ¬ ((P : Int) = 0) := by omega
  have a8 : ¬ (P = 0) := by omega
  have hb : r.natAbs < P := by rw [← hr, Int.natAbs_tmod]; exact Nat.mod_lt _ (by simp; omega)
  have a9 : IntKind.i64.wrap r = r := IntWalk.i64_in _ (by omega)
  have a10 : wrap64 r = r := IntWalk.wrap64_in _ (by omega)
  go_simp
theorem tmod_zero (f : Int) (P : Nat) : Int.tmod f P = 0 ↔ f % (P : Int) = 0 :=
  ⟨fun h => Int.emod_eq_zero_of_dvd (Int.dvd_of_tmod_eq_zero h), fun h => Int.tmod_eq_zero_of_dvd (Int.dvd_of_emod_eq_zero h)⟩

/-- What Change does. -/
def ChC (w : World) (x g n : Nat) (F : Nat → Bool) (f o : Int) (b : Bool) (e : Ending) (w' : World) : Prop :=
  (wrE n f o ≠ 0 ∧ e = .returned (.int .i64 (wrE n f o)) ∧ Keep (fun _ => False) w w') ∨
  (wrE n f o = 0 ∧ ∃ f' o' : Nat, f = f' ∧ o = o' ∧ o' ≤ 8 ∧ f' % 2 ^ o' = 0 ∧ f' + 2 ^ o' ≤ n ∧
    ((¬ allB F n f' (2 ^ o') (!b) ∧ e = .returned (.int .i64 12) ∧ Keep (fun _ => False) w w') ∨
     (allB F n f' (2 ^ o') (!b) ∧ e = .returned (.int .i64 0) ∧ RX w' x g n (putB F o' f' b) ∧ Keep (fun z => z = g) w w')))
theorem chC_wr {w w' : World} {x g n : Nat} {F : Nat → Bool} {f o : Int} {b : Bool} {z : Int} (h : wrE n f o = z) (hz : z ≠ 0) (k : Keep (fun _ => False) w w') : ChC w x g n F f o b (.returned (.int .i64 z)) w' :=
  .inl ⟨by rw [h]; exact hz, by rw [h], k⟩

set_option maxRecDepth 100000 in
set_option maxHeartbeats 1000000 in
theorem rchange_any {w : World} {x g n : Nat} {F : Nat → Bool} (f o : Int) (b : Bool) (h : RX w x g n F) (hn : n ≤ 1024) (hf : -9223372036854775808 ≤ f ∧ f ≤ 9223372036854775807) :
    Calls Tryz.prog 76 #[.pointer (some ⟨x, 0, none⟩), .int .i64 f, .int .i64 o, .bool b] w (ChC w x g n F f o b) := by
  by_cases h0 : o < 0
  · have HE : Hid (wrE n f o = 2) := by unfold Hid wrE; rw [if_pos (.inl h0)]
    clear h
    go_enter Tryz.func76, Tryz.ntmps76
    go_wp2
    go_ret
    exact chC_wr HE.out (by decide) (by (repeat (first | exact Keep.refl _ _ | exact Keep.refl _ _ | refine Keep.drew ?_ | refine Keep.drewN ?_ _ | refine Keep.alloc ?_ _ | refine Keep.setNew ?_ (by omega) _)); done)
  by_cases h8 : 8 < o
  · have HE : Hid (wrE n f o = 2) := by unfold Hid wrE; rw [if_pos (.inr (.inl h8))]
    clear h
    go_enter Tryz.func76, Tryz.ntmps76
    go_wp2
    go_ret
    exact chC_wr HE.out (by decide) (by (repeat (first | exact Keep.refl _ _ | exact Keep.refl _ _ | refine Keep.drew ?_ | refine Keep.drewN ?_ _ | refine Keep.alloc ?_ _ | refine Keep.setNew ?_ (by omega) _)); done)
  obtain ⟨k, rfl⟩ := Int.eq_ofNat_of_zero_le (show 0 ≤ o by omega)
  have hk : k ≤ 8 := by omega
  obtain ⟨P, hP⟩ : ∃ P, 2 ^ k = P := ⟨_, rfl⟩
  have HSZ : Hid (∀ W, Calls Tryz.prog 16 #[.int .i64 (k : Int)] W fun e w' => e = .returned (.int .i64 (P : Int)) ∧ w' = W) := fun W => by
    rw [← hP, show ((2 ^ k : Nat) : Int) = (2 : Int) ^ k by simp]; exact size_any k hk W
  have hP1 : 1 ≤ P ∧ P ≤ 256 := by
    rw [← hP]
    exact ⟨p2 k, by have := Nat.pow_le_pow_right (n := 2) (by decide) hk; omega⟩
  have hw : wrE n f (k : Int) = if f % (P : Int) ≠ 0 then 2 else if f < 0 ∨ (n : Int) ≤ f ∨ (n : Int) - f < (P : Int) then 3 else 0 := by
    unfold wrE
    rw [Int.toNat_natCast, hP]
    by_cases h1 : f % (P : Int) ≠ 0
    · rw [if_pos (.inr (.inr h1)), if_pos h1]
    · rw [if_neg (by intro h; rcases h with h | h | h; exact h0 h; exact h8 h; exact h1 h), if_neg h1]
  obtain ⟨r, hr⟩ : ∃ r, Int.tmod f P = r := ⟨_, rfl⟩
  have hrun := tmod_run f P hP1 r hr
  have HR := Lib.hid h
  have HPP := Lib.hid hP1
  have HPK := Lib.hid hP
  have HKK := Lib.hid hk
  have c0 := h.c0
  have hz := tmod_zero f P
  rw [hr] at hz
  have hb : r.natAbs < P := by rw [← hr, Int.natAbs_tmod]; exact Nat.mod_lt _ (by simp; omega)
  have a9 : IntKind.i64.wrap r = r := IntWalk.i64_in _ (by omega)
  have a10 : wrap64 r = r := IntWalk.wrap64_in _ (by omega)
  have z1 : ¬ ((P : Int) = 0) := by omega
  have z2 : ¬ (P = 0) := by omega
  have RA : Hid (∀ W (K : Keep (fun _ => False) w W) (f' : Nat), f = f' → f' ≤ 5000 → Calls Tryz.prog 61 #[.pointer (some ⟨x, 0, none⟩), .int .i64 f, .int .i64 (k : Int), .bool (!b)] W fun e w' => w' = W ∧ ((allB F n f' P (!b) ∧ e = .returned (.bool true)) ∨ (¬ allB F n f' P (!b) ∧ e = .returned (.bool false)))) := fun W K f' e hle => by
    rw [e, ← hP]
    exact rall_any (!b) (h.keep K id id) hn hk hle
  have RS : Hid (∀ W (K : Keep (fun _ => False) w W) (f' : Nat), f = f' → f' + P ≤ n → Calls Tryz.prog 94 #[.pointer (some ⟨x, 0, none⟩), .int .i64 f, .int .i64 (k : Int), .bool b] W fun e w' => e = .returned (.tuple #[]) ∧ RX w' x g n (putB F k f' b) ∧ Keep (fun z => z = g) W w') := fun W K f' e hle => by
    rw [e]
    exact rset_any b (h.keep K id id) hn hk (by rw [hP]; exact hle)
  clear hP h hb
  by_cases hr0 : r = 0
  · subst hr0
    have hz2 := hz.mp rfl
    rw [if_neg (fun h => h hz2)] at hw
    by_cases hf0 : f < 0
    · rw [if_pos (.inl hf0)] at hw
      have HW := Lib.hid hw
      clear hw hz hz2 hP1 hk
      go_enter Tryz.func76, Tryz.ntmps76
      go_wp2_with (go_at_call 16; refine (HSZ.out _).mono ?_; rintro e w6 ⟨rfl, rfl⟩)
      go_quiet ((go_at_call 16; exact Calls.quiet_of_same (HSZ.out _)))
      go_wp2
      go_ret
      exact chC_wr HW.out (by decide) (by (repeat (first | exact Keep.refl _ _ | exact Keep.refl _ _ | refine Keep.drew ?_ | refine Keep.drewN ?_ _ | refine Keep.alloc ?_ _ | refine Keep.setNew ?_ (by omega) _)); done)
    · have b0 : decide (f < 0) = false := decide_eq_false hf0
      by_cases hfn : (n : Int) ≤ f
      · have b1 : decide ((n : Int) ≤ f) = true := decide_eq_true hfn
        rw [if_pos (.inr (.inl hfn))] at hw
        have HW := Lib.hid hw
        clear hw hz hz2 hP1 hk
        go_enter Tryz.func76, Tryz.ntmps76
        go_wp2_with (go_at_call 16; refine (HSZ.out _).mono ?_; rintro e w6 ⟨rfl, rfl⟩)
        go_quiet ((go_at_call 16; exact Calls.quiet_of_same (HSZ.out _)))
        go_wp2
        go_ret
        exact chC_wr HW.out (by decide) (by (repeat (first | exact Keep.refl _ _ | exact Keep.refl _ _ | refine Keep.drew ?_ | refine Keep.drewN ?_ _ | refine Keep.alloc ?_ _ | refine Keep.setNew ?_ (by omega) _)); done)
      · obtain ⟨f', hf'⟩ := Int.eq_ofNat_of_zero_le (show 0 ≤ f by omega)
        have hsub : IntKind.i64.wrap ((n : Int) - f) = (n : Int) - f := IntWalk.i64_in _ (by omega)
        have b1 : decide ((n : Int) ≤ f) = false := decide_eq_false hfn
        by_cases hfp : (n : Int) - f < (P : Int)
        · have b2 : decide ((n : Int) - f < (P : Int)) = true := decide_eq_true hfp
          rw [if_pos (.inr (.inr hfp))] at hw
          have HW := Lib.hid hw
          clear hw hz hz2 hP1 hk hf'
          go_enter Tryz.func76, Tryz.ntmps76
          go_wp2_with (go_at_call 16; refine (HSZ.out _).mono ?_; rintro e w6 ⟨rfl, rfl⟩)
          go_quiet ((go_at_call 16; exact Calls.quiet_of_same (HSZ.out _)))
          go_wp2
          go_ret
          exact chC_wr HW.out (by decide) (by (repeat (first | exact Keep.refl _ _ | exact Keep.refl _ _ | refine Keep.drew ?_ | refine Keep.drewN ?_ _ | refine Keep.alloc ?_ _ | refine Keep.setNew ?_ (by omega) _)); done)
        · rw [if_neg (by intro h; rcases h with h | h | h; exact hf0 h; exact hfn h; exact hfp h)] at hw
          have HW := Lib.hid hw
          have hm0 : f' % P = 0 := by rw [hf'] at hz2; exact_mod_cast hz2
          have b2 : decide ((n : Int) - f < (P : Int)) = false := decide_eq_false hfp
          have HF' : Hid (f = (f' : Int) ∧ f' % P = 0 ∧ f' + P ≤ n) := ⟨hf', hm0, by omega⟩
          clear hw hz hz2 hP1 hk hf' hm0
          go_enter Tryz.func76, Tryz.ntmps76
          go_wp2_with (go_at_call 16; refine (HSZ.out _).mono ?_; rintro e w6 ⟨rfl, rfl⟩)
          go_quiet ((go_at_call 16; exact Calls.quiet_of_same (HSZ.out _)))
          go_wp2_with fail
          refine (RA.out _ (by (repeat (first | exact Keep.refl _ _ | exact Keep.refl _ _ | refine Keep.drew ?_ | refine Keep.drewN ?_ _ | refine Keep.alloc ?_ _ | refine Keep.setNew ?_ (by omega) _)); done) f' HF'.out.1 (by have := HF'.out.2.2; omega)).mono ?_
          rintro e w7 ⟨hw7, ⟨hall, rfl⟩ | ⟨hall, rfl⟩⟩
          · have HK7 : Hid (Keep (fun _ => False) w6 w7) := by unfold Hid; rw [hw7]; exact (by (repeat (first | exact Keep.refl _ _ | exact Keep.refl _ _ | refine Keep.drew ?_ | refine Keep.drewN ?_ _ | refine Keep.alloc ?_ _ | refine Keep.setNew ?_ (by omega) _)); done)
            have HALL := Lib.hid hall
            clear hw7 hall
            go_wp2_with fail
            refine (RS.out _ HK7.out f' HF'.out.1 HF'.out.2.2).mono ?_
            rintro e w8 ⟨rfl, hx8, hk8⟩
            have HX8 := Lib.hid hx8
            have HK8 := Lib.hid hk8
            clear hx8 hk8
            go_wp2
            go_ret
            exact .inr ⟨HW.out, f', k, HF'.out.1, rfl, HKK.out, by rw [HPK.out]; exact HF'.out.2.1, by rw [HPK.out]; exact HF'.out.2.2, .inr ⟨by rw [HPK.out]; exact HALL.out, rfl, HX8.out, (HK7.out.mono (fun _ _ h => h.elim)).trans HK8.out⟩⟩
          · have HK7 : Hid (Keep (fun _ => False) w6 w7) := by unfold Hid; rw [hw7]; exact (by (repeat (first | exact Keep.refl _ _ | exact Keep.refl _ _ | refine Keep.drew ?_ | refine Keep.drewN ?_ _ | refine Keep.alloc ?_ _ | refine Keep.setNew ?_ (by omega) _)); done)
            have HALL := Lib.hid hall
            clear hw7 hall
            go_wp2
            go_ret
            exact .inr ⟨HW.out, f', k, HF'.out.1, rfl, HKK.out, by rw [HPK.out]; exact HF'.out.2.1, by rw [HPK.out]; exact HF'.out.2.2, .inl ⟨by rw [HPK.out]; exact HALL.out, rfl, HK7.out⟩⟩
  · have hz2 : f % (P : Int) ≠ 0 := fun h => hr0 (hz.mpr h)
    rw [if_pos hz2] at hw
    have HW := Lib.hid hw
    have hr2 : (r != 0) = true := by rw [bne_iff_ne]; exact hr0
    clear hw hz hz2 hP1 hk
    go_enter Tryz.func76, Tryz.ntmps76
    go_wp2_with (go_at_call 16; refine (HSZ.out _).mono ?_; rintro e w6 ⟨rfl, rfl⟩)
    go_ret
    exact chC_wr HW.out (by decide) (by (repeat (first | exact Keep.refl _ _ | exact Keep.refl _ _ | refine Keep.drew ?_ | refine Keep.drewN ?_ _ | refine Keep.alloc ?_ _ | refine Keep.setNew ?_ (by omega) _)); done)

/- Part AB: Buddy: the reference's Blocks, the plain law. -/
/-- The blocks that begin below at, in order; none goes beyond. -/
def BlI (F : Nat → Bool) (D : List Bk) (t : Nat) : Prop :=
  D.Pairwise (fun x y => x.f < y.f) ∧ (∀ x, x ∈ D ↔ ∃ k a : Nat, mx F k a ∧ a < t ∧ x = ⟨(a : Int), (k : Int)⟩) ∧ ∀ k a, mx F k a → a < t → a + 2 ^ k ≤ t
theorem bl_zero (F : Nat → Bool) : BlI F [] 0 :=
  ⟨List.Pairwise.nil, fun x => ⟨fun h => (by cases h), fun ⟨_, _, _, h, _⟩ => absurd h (Nat.not_lt_zero _)⟩, fun _ _ _ h => absurd h (Nat.not_lt_zero _)⟩
theorem bl_skip {F : Nat → Bool} {D : List Bk} {t : Nat} (h : BlI F D t) (hF : F t = false) : BlI F D (t + 1) := by
  obtain ⟨h1, h2, h3⟩ := h
  have hno : ∀ k a, mx F k a → a < t + 1 → a < t := fun k a hm ha => by
    have : a ≠ t := fun e => by
      subst e
      have := hm.2.2.1 a (Nat.le_refl _) (by have := p2 k; omega)
      rw [hF] at this; cases this
    omega
  refine ⟨h1, fun x => ?_, fun k a hm ha => by have := h3 k a hm (hno k a hm ha); omega⟩
  rw [h2 x]
  exact ⟨fun ⟨k, a, hm, ha, e⟩ => ⟨k, a, hm, by omega, e⟩, fun ⟨k, a, hm, ha, e⟩ => ⟨k, a, hm, hno k a hm ha, e⟩⟩
theorem bl_take {F : Nat → Bool} {D : List Bk} {t k : Nat} (h : BlI F D t) (hk : k ≤ 8) (hm : t % 2 ^ k = 0) (hb : blk F k t) (hg : ∀ j, k < j → j ≤ 8 → ¬ (t % 2 ^ j = 0 ∧ blk F j t)) :
    mx F k t ∧ BlI F (D ++ [⟨(t : Int), (k : Int)⟩]) (t + 2 ^ k) := by
  obtain ⟨h1, h2, h3⟩ := h
  have hpos := p2 k
  have hmx : mx F k t := by
    refine ⟨hk, hm, hb, fun ⟨hk8, hb2⟩ => ?_⟩
    obtain ⟨j, hj, hmj⟩ := mx_up t (8 - (k + 1)) (k + 1) (by omega) hb2
    have q1 := dn_le j t
    have q2 := dn_lt j t
    by_cases he : dn j t = t
    · rw [he] at hmj
      exact hg j (by omega) hmj.1 ⟨hmj.2.1, hmj.2.2.1⟩
    · have := h3 j _ hmj (by omega); omega
  have hc : ∀ k' a, mx F k' a → a < t + 2 ^ k → (a < t) ∨ (k' = k ∧ a = t) := fun k' a hm' ha => by
    by_cases hl : a < t
    · exact .inl hl
    · exact .inr (mx_uniq hm' hmx (Nat.le_refl _) (by have := p2 k'; omega) (by omega) ha)
  refine ⟨hmx, ?_, fun x => ?_, fun k' a hm' ha => ?_⟩
  · rw [List.pairwise_append]
    refine ⟨h1, List.pairwise_singleton _ _, fun x hx y hy => ?_⟩
    rw [List.mem_singleton] at hy
    subst hy
    obtain ⟨k', a, _, ha, rfl⟩ := (h2 x).mp hx
    exact Int.ofNat_lt.mpr ha
  · rw [List.mem_append, List.mem_singleton, h2 x]
    constructor
    · rintro (⟨k', a, hm', ha, e⟩ | e)
      · exact ⟨k', a, hm', by omega, e⟩
      · exact ⟨k, t, hmx, by omega, e⟩
    · rintro ⟨k', a, hm', ha, e⟩
      rcases hc k' a hm' ha with hl | ⟨rfl, rfl⟩
      · exact .inl ⟨k', a, hm', hl, e⟩
      · exact .inr e
  · rcases hc k' a hm' ha with hl | ⟨rfl, rfl⟩
    · have := h3 k' a hm' hl; omega
    · exact Nat.le_refl _
theorem bl_end {F : Nat → Bool} {D : List Bk} {t n : Nat} (h : BlI F D t) (hF : ∀ i, F i = true → i < n) (ht : n ≤ t) : IsBl F D := by
  refine ⟨h.1, fun x => ?_⟩
  rw [h.2.1 x]
  exact ⟨fun ⟨k, a, hm, _, e⟩ => ⟨k, a, hm, e⟩, fun ⟨k, a, hm, e⟩ => ⟨k, a, hm, by have := mx_lt hF hm; omega, e⟩⟩
theorem allB_blk {F : Nat → Bool} {n k f : Nat} (hF : ∀ i, F i = true → i < n) : allB F n f (2 ^ k) true ↔ blk F k f := by
  constructor
  · intro h i h1 h2
    have := (h (i - f) (by omega)).2
    rwa [show f + (i - f) = i by omega] at this
  · intro h i hi
    have := h (f + i) (by omega) (by omega)
    exact ⟨hF _ this, this⟩
/-- What the inner loop knows: the greatest order below j. -/
def BsI (F : Nat → Bool) (t : Nat) (j : Nat) (k : Int) : Prop :=
  (k = -1 ∧ ∀ i, i < j → ¬ (t % 2 ^ i = 0 ∧ blk F i t)) ∨ ∃ q : Nat, k = q ∧ q < j ∧ (t % 2 ^ q = 0 ∧ blk F q t) ∧ ∀ i, q < i → i < j → ¬ (t % 2 ^ i = 0 ∧ blk F i t)
theorem bsI_zero (F : Nat → Bool) (t : Nat) : BsI F t 0 (-1) := .inl ⟨rfl, fun i h => absurd h (Nat.not_lt_zero _)⟩
theorem bsI_yes {F : Nat → Bool} {t j : Nat} {k : Int} (h : t % 2 ^ j = 0 ∧ blk F j t) : BsI F t (j + 1) j :=
  .inr ⟨j, rfl, Nat.lt_succ_self _, h, fun i h1 h2 => by omega⟩
theorem bsI_no {F : Nat → Bool} {t j : Nat} {k : Int} (hI : BsI F t j k) (h : ¬ (t % 2 ^ j = 0 ∧ blk F j t)) : BsI F t (j + 1) k := by
  rcases hI with ⟨rfl, h1⟩ | ⟨q, rfl, h1, h2, h3⟩
  · exact .inl ⟨rfl, fun i hi => by
      by_cases e : i = j
      · rw [e]; exact h
      · exact h1 i (by omega)⟩
  · exact .inr ⟨q, rfl, by omega, h2, fun i hi hi2 => by
      by_cases e : i = j
      · rw [e]; exact h
      · exact h3 i hi (by omega)⟩
theorem bsI_none {F : Nat → Bool} {t : Nat} {D : List Bk} (hI : BsI F t 9 (-1)) (h : BlI F D t) : BlI F D (t + 1) := by
  rcases hI with ⟨-, h1⟩ | ⟨q, e, -⟩
  · refine bl_skip h ?_
    cases hF : F t with
    | false => rfl
    | true => exact absurd ⟨Nat.mod_one t, fun i h1 h2 => by simp at h2; rw [show i = t by omega]; exact hF⟩ (h1 0 (by omega))
  · omega
theorem bsI_some {F : Nat → Bool} {t q : Nat} {D : List Bk} (hI : BsI F t 9 (q : Int)) (h : BlI F D t) : q ≤ 8 ∧ BlI F (D ++ [⟨(t : Int), (q : Int)⟩]) (t + 2 ^ q) := by
  rcases hI with ⟨e, -⟩ | ⟨q', e, h1, h2, h3⟩
  · omega
  · have : q = q' := by omega
    subst this
    exact ⟨by omega, (bl_take h (by omega) h2.1 h2.2 (fun j hj hj8 => h3 j hj (by omega))).2⟩

/- Part AC: Buddy: the reference's Blocks, the walk. -/
def RBlI (w wr : World) (n : Nat) (F : Nat → Bool) (v : Value) (i : Value) : Prop :=
  ∃ D t, i = .int .i64 ((t : Nat) : Int) ∧ t ≤ n ∧ BlI F D t ∧ D.length ≤ t ∧ OwnL bkE wr w.heap.size 96 v D ∧ Keep (fun _ => False) w wr
set_option maxRecDepth 100000 in
set_option maxHeartbeats 1000000 in
theorem rblocks_any {w : World} {x g n : Nat} {F : Nat → Bool} (h : RX w x g n F) (hn : n ≤ 1024) (hF : ∀ i, F i = true → i < n) :
    Calls Tryz.prog 27 #[.pointer (some ⟨x, 0, none⟩)] w (BlC F w) := by
  have HR := Lib.hid h
  have HN := Lib.hid hn
  have HF := Lib.hid hF
  clear h hn hF
  go_enter Tryz.func27, Tryz.ntmps27
  go_wp2
  go_loopw [3, 4] (fun v i wr => RBlI w wr n F v i) (fun _ i _ => n - (intOf i).toNat)
  case atStart => exact ⟨[], 0, rfl, by omega, bl_zero F, by simp, OwnL.nil _ _ _, Keep.refl _ _⟩
  case round =>
    obtain ⟨D, t, rfl, htn, hbl, hdl, ho, hk⟩ := hrel
    have HBL := Lib.hid hbl
    have HDL := Lib.hid hdl
    have HO := Lib.hid ho
    have HK := Lib.hid hk
    have HR2 := Lib.hid (HR.out.keep hk id id)
    have c0 := HR2.out.c0
    clear hbl hdl ho hk
    have t0 : (0 : Int) ≤ t := Int.natCast_nonneg t
    by_cases hlt : t < n
    · have hnn := HN.out
      have t1 : (t : Int) < (n : Int) := by omega
      have t2 : (t : Int) < 1024 := by omega
      have t3 : t < 1024 := by omega
      clear hnn
      go_wp2
      go_loopw [5, 6] (fun k i w2 => ∃ (j : Nat) (kk : Int), j ≤ 9 ∧ i = .int .i64 (j : Int) ∧ k = .int .i64 kk ∧ BsI F t j kk ∧ (-1 ≤ kk ∧ kk ≤ 8) ∧ w2 = wr) (fun _ i _ => 9 - (intOf i).toNat)
      case atStart => exact ⟨0, -1, by omega, rfl, rfl, bsI_zero F t, by omega, rfl⟩
      case round =>
        obtain ⟨j, kk, hj, rfl, rfl, hbs, hkk, rfl⟩ := hrel
        have HBS := Lib.hid hbs
        clear hbs
        by_cases hj9 : j < 9
        · have j8 : (j : Int) ≤ 8 := by omega
          have j0 : (0 : Int) ≤ (j : Int) := Int.natCast_nonneg j
          obtain ⟨P, hP⟩ : ∃ P, 2 ^ j = P := ⟨_, rfl⟩
          have HSZ : Hid (∀ W, Calls Tryz.prog 16 #[.int .i64 (j : Int)] W fun e w' => e = .returned (.int .i64 (P : Int)) ∧ w' = W) := fun W => by
            rw [← hP, show ((2 ^ j : Nat) : Int) = (2 : Int) ^ j by simp]; exact size_any j (by omega) W
          have hP1 : 1 ≤ P ∧ P ≤ 256 := by
            rw [← hP]
            exact ⟨p2 j, by have := Nat.pow_le_pow_right (n := 2) (by decide) (show j ≤ 8 by omega); omega⟩
          have z1 : ¬ ((P : Int) = 0) := by omega
          have z2 : ¬ (P = 0) := by omega
          have HRA := Lib.hid (rall_any (f := t) (k := j) true HR2.out HN.out (by omega) (by omega))
          by_cases hz : t % P = 0
          · have z5 : (t : Int) % (P : Int) = 0 := by rw [← Int.natCast_emod, hz]; rfl
            have z4 : ((t : Int) % (P : Int) == 0) = true := by rw [z5]; rfl
            have HZ : Hid (t % 2 ^ j = 0) := by rw [hP]; exact hz
            clear hP hP1 hz
            go_wp2_with (first | (go_at_call 16; refine (HSZ.out _).mono ?_; rintro e w6 ⟨rfl, rfl⟩) | fail)
            refine HRA.out.mono ?_
            rintro e w7 ⟨rfl, ⟨hall, rfl⟩ | ⟨hall, rfl⟩⟩
            · have HA := Lib.hid ((allB_blk HF.out).mp hall)
              clear hall
              go_wp2
              go_roundw
              case rel => exact ⟨j + 1, (j : Int), by omega, by go_num, rfl, bsI_yes (k := kk) ⟨HZ.out, HA.out⟩, by omega, trivial⟩
              case measure => simp [intOf]; omega
            · have HA : Hid (¬ blk F j t) := fun h => hall ((allB_blk HF.out).mpr h)
              clear hall
              go_wp2
              go_roundw
              case rel => exact ⟨j + 1, kk, by omega, by go_num, rfl, bsI_no HBS.out (fun h => HA.out h.2), by omega, trivial⟩
              case measure => simp [intOf]; omega
          · have z4 : ((t : Int) % (P : Int) == 0) = false := by rw [beq_eq_false_iff_ne]; omega
            have z5 : ¬ (t : Int) % (P : Int) = 0 := by omega
            have HZ : Hid (¬ t % 2 ^ j = 0) := by rw [hP]; exact hz
            clear hP hP1 hz
            go_wp2_with (go_at_call 16; refine (HSZ.out _).mono ?_; rintro e w6 ⟨rfl, rfl⟩)
            go_roundw
            case rel => exact ⟨j + 1, kk, by omega, by go_num, rfl, bsI_no HBS.out (fun h => HZ.out h.1), by omega, trivial⟩
            case measure => simp [intOf]; omega
        · obtain rfl : j = 9 := by omega
          by_cases hk0 : kk < 0
          · obtain rfl : kk = -1 := by omega
            have HB2 : Hid (BlI F D (t + 1)) := bsI_none HBS.out HBL.out
            go_wp2
            go_roundw
            case rel => exact ⟨D, t + 1, by go_num, by omega, HB2.out, by have := HDL.out; omega, HO.out, HK.out⟩
            case measure => simp [intOf]; omega
          · obtain ⟨q, rfl⟩ := Int.eq_ofNat_of_zero_le (show 0 ≤ kk by omega)
            obtain ⟨hq8, hb2⟩ := bsI_some HBS.out HBL.out
            obtain ⟨P, hP⟩ : ∃ P, 2 ^ q = P := ⟨_, rfl⟩
            rw [hP] at hb2
            have HSZ : Hid (∀ W, Calls Tryz.prog 16 #[.int .i64 (q : Int)] W fun e w' => e = .returned (.int .i64 (P : Int)) ∧ w' = W) := fun W => by
              rw [← hP, show ((2 ^ q : Nat) : Int) = (2 : Int) ^ q by simp]; exact size_any q hq8 W
            have hP1 : 1 ≤ P ∧ P ≤ 256 := by
              rw [← hP]
              exact ⟨p2 q, by have := Nat.pow_le_pow_right (n := 2) (by decide) hq8; omega⟩
            have hPn : t + P ≤ n := by
              have hm : mx F q t := by
                rcases (hb2.2.1 ⟨(t : Int), (q : Int)⟩).mp (by simp) with ⟨k', a, hm, _, e⟩
                simp only [Bk.mk.injEq] at e
                have e1 : t = a := by omega
                have e2 : q = k' := by omega
                rw [e1, e2]; exact hm
              have := HF.out (t + P - 1) (hm.2.2.1 _ (by omega) (by rw [hP]; omega))
              omega
            have HPN := Lib.hid (And.intro hP1 hPn)
            have HB2 := Lib.hid hb2
            have hwt : IntKind.i64.wrap ((t : Int) + (P : Int)) = ((t + P : Nat) : Int) := by
              rw [show (t : Int) + (P : Int) = ((t + P : Nat) : Int) by omega]; exact IntWalk.i64_in _ (by omega)
            obtain ⟨v, hv⟩ : ∃ v, t + P = v := ⟨_, rfl⟩
            rw [hv] at hwt
            have HV := Lib.hid hv
            obtain ⟨a2, c2, rfl, -⟩ := HO.out.slice
            clear hb2 hP hP1 hPn hv
            go_wp2_with (at_builtin; go_loud (refine wpl_appF et43 rfl (.tmp 34) (.tmp 38) rfl w.heap.size (.slice a2 D.length c2) D.length (bkE.cs D) rfl (OwnL.keep HO.out (Keep.alloc (Keep.refl (fun _ => False) _) _) (fun _ _ => id)) ⟨wr.heap.size, 0, none⟩ 1 1 (bkE.c ⟨(t : Int), (q : Int)⟩) rfl rfl (new_cells (heap_alloc_new wr _)) (bkE.one _) (by have := HDL.out; unfold maxLen; omega) (by have := HDL.out; omega) (by have := HK.out.size; simp; omega) ?_; intro v6 w6 hown6 hgrow6 hf6; have HO6 : Hid (OwnL bkE w6 w.heap.size 96 v6 (D ++ [⟨(t : Int), (q : Int)⟩])) := (by unfold Hid; unfold OwnL; rw [List.length_append, bkE.cs_append, bkE.cs_one]; exact hown6); have HK6 : Hid (Keep (fun _ => False) w w6) := (Keep.on HK.out (Keep.grown (S := fun z => (Value.slice a2 D.length c2).ownBlock = some z) (Keep.alloc (Keep.refl _ wr) _) hgrow6 (fun z h1 h2 => h1)) (fun z hz e => by have := (HO.out.lt z e).1; omega)); clear hown6 hgrow6 hf6))
            go_wp2_with (go_at_call 16; refine (HSZ.out _).mono ?_; rintro e w7 ⟨rfl, rfl⟩)
            go_roundw
            case rel => exact ⟨_, v, by go_num, by have := HPN.out; have := HV.out; omega, by rw [← HV.out]; exact HB2.out, by have := HDL.out; have := HPN.out; have := HV.out; simp; omega, HO6.out, HK6.out⟩
            case measure => have := HPN.out; have := HV.out; simp [intOf]; omega
    · obtain rfl : t = n := by omega
      have HE : Hid (IsBl F D) := bl_end HBL.out HF.out (Nat.le_refl _)
      go_wp2
      go_ret
      exact ⟨_, D, rfl, HO.out, HE.out, by have := HDL.out; have := HN.out; omega, HK.out⟩

/- Part AE: Buddy: Same; the reference's Take. -/
set_option maxHeartbeats 1000000 in
theorem same_bk (B C : Nat) (v u : Value) (X : List Bk) (w : World) (hv : OwnL bkE w B 96 v X) (hu : OwnL bkE w C 96 u X) (hl : X.length ≤ 1000000) :
    Calls Tryz.prog 25 #[v, u] w fun e w' => e = .returned (.bool true) ∧ Keep (fun _ => False) w w' := by
  obtain ⟨a1, c1, rfl, hag1⟩ := hv.slice
  obtain ⟨a2, c2, rfl, hag2⟩ := hu.slice
  have HAG1 := Lib.hid hag1
  have HAG2 := Lib.hid hag2
  clear hag1 hag2
  go_enter Tryz.func25, Tryz.ntmps25
  go_wp2
  go_loopw [5] (fun i wr => ∃ k : Nat, k ≤ X.length ∧ i = .int .i64 k ∧ Keep (fun _ => False) w wr) (fun i _ => X.length - (intOf i).toNat)
  case atStart => exact ⟨0, by omega, rfl, Keep.refl _ _⟩
  case round =>
    obtain ⟨k, hk, rfl, hkeep⟩ := hrel
    have HK := Lib.hid hkeep
    clear hkeep
    by_cases hlt : k < X.length
    · obtain ⟨g, rfl⟩ := HAG1.out (by intro e; rw [e] at hlt; simp at hlt)
      obtain ⟨g2, rfl⟩ := HAG2.out (by intro e; rw [e] at hlt; simp at hlt)
      obtain ⟨c0, c1⟩ := bk_cells (hv.keep HK.out (fun _ _ => id)) hlt
      obtain ⟨d0, d1⟩ := bk_cells (hu.keep HK.out (fun _ _ => id)) hlt
      go_wp2
      go_quiet (fail)
      go_wp2
      go_roundw
      case rel => exact ⟨k + 1, by omega, by go_num, HK.out.drewN _⟩
      case measure => simp [intOf]; omega
    · go_wp2
      go_ret
      exact ⟨rfl, HK.out⟩

end Go.Proofs.YtjffdimlbppgcaaGreat
