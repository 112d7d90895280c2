/- Memory: the frames' states: the program and the reference. -/
import Derived.Test.YtjffdimlbppgcaaGreatRB
import Derived.BigRegion
import Derived.Deep.AppendLies
set_option linter.unusedVariables false
set_option linter.unusedSimpArgs false
namespace Go.Proofs.YtjffdimlbppgcaaGreat
open Go.RowKit Go.Own
namespace Fr


/- Part A -/


def stateB (n : Int) : Bool := decide (0 ≤ n ∧ n < 6)
theorem stateB_t {n : Int} (h : 0 ≤ n) (h' : n < 6) : stateB n = true := by simp [stateB, h, h']
theorem stateB_f {n : Int} (h : n < 0 ∨ 6 ≤ n) : stateB n = false := by simp [stateB]; omega

set_option maxRecDepth 100000 in
set_option maxHeartbeats 400000 in
theorem state_t (n : Int) (w : World) (h0 : 0 ≤ n) (h1 : n < 6) :
    Calls Tryz.prog 80 #[.int .i64 n] w fun e w' => e = .returned (.bool true) ∧ w = w' := by
  go_enter Tryz.func80, Tryz.ntmps80
  go_wp2
  go_ret
  exact ⟨rfl, rfl⟩

set_option maxRecDepth 100000 in
set_option maxHeartbeats 400000 in
theorem state_any (n : Int) (w : World) :
    Calls Tryz.prog 80 #[.int .i64 n] w fun e w' => e = .returned (.bool (stateB n)) ∧ w = w' := by
  go_enter Tryz.func80, Tryz.ntmps80
  go_wp2
  all_goals
    go_ret
    exact ⟨by simp [stateB] <;> omega, rfl⟩

set_option maxRecDepth 100000 in
set_option maxHeartbeats 400000 in
theorem state_f (n : Int) (w : World) (h : n < 0 ∨ 6 ≤ n) :
    Calls Tryz.prog 80 #[.int .i64 n] w fun e w' => e = .returned (.bool false) ∧ w = w' := by
  rcases h with h | h
  all_goals
    go_enter Tryz.func80, Tryz.ntmps80
    go_wp2
    all_goals
      go_ret
      exact ⟨by simp <;> omega, rfl⟩

set_option maxRecDepth 100000 in
set_option maxHeartbeats 400000 in
theorem len_nil (w : World) :
    Calls Tryz.prog 55 #[.pointer none] w fun e w' => e = .returned (.int .i64 0) ∧ w = w' := by
  go_enter Tryz.func55, Tryz.ntmps55
  go_wp2
  go_ret
  exact ⟨rfl, rfl⟩

set_option maxRecDepth 100000 in
set_option maxHeartbeats 400000 in
theorem len_any (p q n : Nat) (w : World) (h : w.cell? ⟨p, 0, none⟩ = some (.slice (some ⟨q, 0, none⟩) n n)):
    Calls Tryz.prog 55 #[.pointer (some ⟨p, 0, none⟩)] w fun e w' => e = .returned (.int .i64 n) ∧ w = w' := by
  go_enter Tryz.func55, Tryz.ntmps55
  go_wp2
  go_ret
  exact ⟨rfl, rfl⟩

def mayB (f t : Int) : Bool := if f = t then false else if f = 0 ∨ t = 0 then true else if f = 2 then t = 4 ∨ t = 5 else t = 2 ∧ (f = 4 ∨ f = 5)

set_option maxRecDepth 100000 in
set_option maxHeartbeats 400000 in
theorem may_any (f t : Int) (w : World) :
    Calls Tryz.prog 82 #[.int .i64 f, .int .i64 t] w fun e w' => e = .returned (.bool (mayB f t)) ∧ w = w' := by
  go_enter Tryz.func82, Tryz.ntmps82
  go_wp2
  all_goals
    go_ret
    exact ⟨by simp_all [mayB, Bool.beq_eq_decide_eq], rfl⟩


/- Part B -/


def cnt (L : List Int) (k : Nat) : Int := (L.count (k : Int) : Int)
def cnts (L : List Int) : List Int := [cnt L 0, cnt L 1, cnt L 2, cnt L 3, cnt L 4, cnt L 5]

/-- The object at p, its row at q: L. -/
structure RepF (w : World) (p q : Nat) (L : List Int) : Prop where
  hp : w.heap[p]? = some (.cells (.slice (some ⟨q, 0, none⟩) L.length L.length :: (cnts L).map (Value.int .i64)).toArray 104 (0, 0))
  hq : w.heap[q]? = some (rowI L)
  ne : p ≠ q
  lo : 8 ≤ L.length
  hi : L.length ≤ 1024
  st : ∀ x, x ∈ L → 0 ≤ x ∧ x < 6

/-- k numbers from f on become b. -/
def fillN (L : List Int) (f : Nat) (b : Int) : Nat → List Int
  | 0 => L
  | k + 1 => (fillN L f b k).set (f + k) b
theorem fillN_length (L : List Int) (f : Nat) (b : Int) (k : Nat) : (fillN L f b k).length = L.length := by
  induction k with
  | zero => rfl
  | succ k ih => simp [fillN, ih]

/-- The n numbers from f on are all a. -/
def allAre (L : List Int) (f n : Nat) (a : Int) : Prop := ∀ j, j < n → gi L (f + j) = a
instance (L : List Int) (f n : Nat) (a : Int) : Decidable (allAre L f n a) := inferInstanceAs (Decidable (∀ j, j < n → gi L (f + j) = a))

theorem count_set {L : List Int} {i : Nat} (h : i < L.length) (b x : Int) :
    ((L.set i b).count x : Int) = L.count x - (if gi L i = x then 1 else 0) + (if b = x then 1 else 0) := by
  rw [gi_eq h]
  induction L generalizing i with
  | nil => simp at h
  | cons y L ih =>
    cases i with
    | zero =>
      simp only [List.set_cons_zero, List.count_cons, List.getElem_cons_zero, beq_iff_eq]
      split <;> split <;> simp <;> omega
    | succ i =>
      simp only [List.set_cons_succ, List.count_cons, List.getElem_cons_succ]
      have := ih (i := i) (by simpa using h)
      split <;> simp <;> omega

theorem gi_fillN (L : List Int) (f : Nat) (b : Int) (k i : Nat) (h : f + k ≤ L.length) : gi (fillN L f b k) i = if f ≤ i ∧ i < f + k then b else gi L i := by
  induction k with
  | zero => simp [fillN]; intro h1 h2; omega
  | succ k ih =>
    have ih := ih (by omega)
    simp only [fillN]
    by_cases e : f + k = i
    · subst e; rw [gi_set_eq (by rw [fillN_length]; omega), if_pos (by omega)]
    · rw [gi_set_ne e, ih]
      by_cases c : f ≤ i ∧ i < f + k
      · rw [if_pos c, if_pos (by omega)]
      · rw [if_neg c, if_neg (by omega)]

theorem count_fillN (L : List Int) (f : Nat) (a b : Int) (k : Nat) (h : f + k ≤ L.length) (ha : allAre L f k a) (x : Int) :
    ((fillN L f b k).count x : Int) = L.count x - (if a = x then (k : Int) else 0) + (if b = x then (k : Int) else 0) := by
  induction k with
  | zero => simp [fillN]
  | succ k ih =>
    have ih := ih (by omega) (fun j hj => ha j (by omega))
    simp only [fillN]
    have e1 : gi (fillN L f b k) (f + k) = a := by rw [gi_fillN _ _ _ _ _ (by omega), if_neg (by omega)]; exact ha k (by omega)
    rw [count_set (by rw [fillN_length]; omega), ih, e1]
    by_cases c1 : a = x <;> by_cases c2 : b = x <;> simp only [c1, c2, if_true, if_false] <;> omega

theorem mem_set {L : List Int} {i : Nat} {b : Int} {P : Int → Prop} (h : ∀ x, x ∈ L → P x) (hb : P b) : ∀ x, x ∈ L.set i b → P x := by
  intro x hx
  rcases List.mem_or_eq_of_mem_set hx with h1 | h1
  · exact h x h1
  · subst h1; exact hb
theorem mem_fillN {L : List Int} {f : Nat} {b : Int} {P : Int → Prop} (h : ∀ x, x ∈ L → P x) (hb : P b) (k : Nat) : ∀ x, x ∈ fillN L f b k → P x := by
  induction k with
  | zero => exact h
  | succ k ih => exact mem_set ih hb

/-- The counts behind a turn. -/
theorem cnts_turn {L : List Int} {f n a b : Nat} (h : f + n ≤ L.length) (ha : allAre L f n a) (h6 : a < 6) (h7 : b < 6) (hab : a ≠ b) :
    cnts (fillN L f b n) = ((cnts L).set a (gi (cnts L) a - n)).set b (gi (cnts L) b + n) := by
  have h0 := fun x : Nat => count_fillN L f a b n h ha x
  unfold cnts cnt
  simp only [h0]
  rcases (by omega : a = 0 ∨ a = 1 ∨ a = 2 ∨ a = 3 ∨ a = 4 ∨ a = 5) with rfl | rfl | rfl | rfl | rfl | rfl <;>
  rcases (by omega : b = 0 ∨ b = 1 ∨ b = 2 ∨ b = 3 ∨ b = 4 ∨ b = 5) with rfl | rfl | rfl | rfl | rfl | rfl <;>
  first | (exact absurd rfl hab) | (simp [gi])

theorem RepF.c0 {w : World} {p q : Nat} {L : List Int} (h : RepF w p q L) : w.cell? ⟨p, 0, none⟩ = some (.slice (some ⟨q, 0, none⟩) L.length L.length) := by
  rw [cell_block h.hp]; rfl
theorem RepF.ck {w : World} {p q : Nat} {L : List Int} (h : RepF w p q L) {a : Nat} (ha : a < 6) : w.cell? ⟨p, 1 + a, none⟩ = some (.int .i64 (gi (cnts L) a)) := by
  rw [cell_block h.hp]
  rcases (by omega : a = 0 ∨ a = 1 ∨ a = 2 ∨ a = 3 ∨ a = 4 ∨ a = 5) with rfl | rfl | rfl | rfl | rfl | rfl <;> rfl

theorem RepF.cb {w : World} {p q : Nat} {L : List Int} (h : RepF w p q L) {a : Nat} (ha : a < 6) : 0 ≤ gi (cnts L) a ∧ gi (cnts L) a ≤ 1024 := by
  have hh := h.hi
  have h0 := fun x : Nat => (List.count_le_length (a := (x : Int)) (l := L))
  have : ∀ x : Nat, 0 ≤ cnt L x ∧ cnt L x ≤ 1024 := fun x => by have := h0 x; unfold cnt; omega
  rcases (by omega : a = 0 ∨ a = 1 ∨ a = 2 ∨ a = 3 ∨ a = 4 ∨ a = 5) with rfl | rfl | rfl | rfl | rfl | rfl <;> exact this _

theorem mayB_ne {a b : Int} (h : mayB a b = true) : a ≠ b := by
  intro e; subst e; simp [mayB] at h

theorem RepF.turned {w w' : World} {p q : Nat} {L : List Int} (h : RepF w p q L) {f n a b : Nat} (h2 : f + n ≤ L.length) (ha : allAre L f n a) (h6 : a < 6) (h7 : b < 6) (hab : a ≠ b)
    (hp : w'.heap[p]? = some (.cells (.slice (some ⟨q, 0, none⟩) L.length L.length :: (((cnts L).set a (gi (cnts L) a - n)).set b (gi (cnts L) b + n)).map (Value.int .i64)).toArray 104 (0, 0)))
    (hq : w'.heap[q]? = some (rowI (fillN L f b n))) : RepF w' p q (fillN L f b n) where
  hp := by rw [fillN_length, cnts_turn h2 ha h6 h7 hab]; exact hp
  hq := hq
  ne := h.ne
  lo := by rw [fillN_length]; exact h.lo
  hi := by rw [fillN_length]; exact h.hi
  st := mem_fillN h.st (by omega) n

set_option maxRecDepth 100000 in
set_option maxHeartbeats 2000000 in
theorem turn_go (p q : Nat) (L : List Int) (f n : Nat) (a b : Nat) (w : World) (hR : RepF w p q L)
   (h1 : 1 ≤ n) (h2 : f + n ≤ L.length) (ha6 : a < 6) (hb6 : b < 6) (ha : stateB a = true) (hb : stateB b = true) (hm : mayB a b = true) :
    Calls Tryz.prog 59 #[.pointer (some ⟨p, 0, none⟩), .int .i64 f, .int .i64 n, .int .i64 a, .int .i64 b] w fun e w' =>
      (allAre L f n a ∧ e = .returned (.int .i64 0) ∧ RepF w' p q (fillN L f b n) ∧ Keep (fun x => x = p ∨ x = q) w w') ∨ (¬ allAre L f n a ∧ e = .returned (.int .i64 12) ∧ w = w') := by
  have hc0 := hR.c0
  have hl := hR.hi
  have hpq : p ≠ q := hR.ne
  go_enter Tryz.func59, Tryz.ntmps59
  go_wp2_with (first | (go_at_call 80; refine (state_any _ _).mono ?_; rintro e w' ⟨rfl, rfl⟩) | (go_at_call 82; refine (may_any _ _ _).mono ?_; rintro e w' ⟨rfl, rfl⟩))
  go_loop [58] (fun i => ∃ k : Nat, k ≤ n ∧ i = .int .i64 k ∧ allAre L f k a) (fun i => n - (intOf i).toNat)
  case atStart => exact ⟨0, by omega, rfl, fun j hj => by omega⟩
  case round =>
    obtain ⟨k, hk, rfl, hr⟩ := hrel
    have hcell : k < n → w.cell? ⟨q, f + k, none⟩ = some (.int .i64 (gi L (f + k))) := fun h => cell_rowI hR.hq (by omega)
    go_wp2
    case roundEnd =>
      have hlt : k < n := by assumption
      have hne : (gi L (f + k) != a) = false := by assumption
      go_round
      case rel =>
        refine ⟨k + 1, by omega, by go_num, fun j hj => ?_⟩
        by_cases e : j = k
        · subst e; simpa using hne
        · exact hr j (by omega)
      case measure => simp [intOf]; omega
    · have hlt : k < n := by assumption
      have hne : (gi L (f + k) != a) = true := by assumption
      go_ret
      exact .inr ⟨fun hall => by have := hall k hlt; simp [this] at hne, rfl, rfl⟩
    · obtain rfl : k = n := by omega
      have HR := Lib.hid hr
      clear hr hcell
      go_loopw [74] (fun i wr => ∃ k' : Nat, k' ≤ k ∧ i = .int .i64 k' ∧ wr.heap[q]? = some (rowI (fillN L f b k')) ∧ Keep (fun x => x = q) w wr) (fun i _ => k - (intOf i).toNat)
      case atStart => exact ⟨0, by omega, rfl, hR.hq, Keep.refl _ _⟩
      case round =>
        obtain ⟨k', hk', rfl, hrq, hkeep⟩ := hrel
        have hrp := (hkeep.block p (block_lt hR.hp) hpq).trans hR.hp
        have hc0 : wr.cell? ⟨p, 0, none⟩ = some (.slice (some ⟨q, 0, none⟩) L.length L.length) := by rw [cell_block hrp]; rfl
        have hc1 : k' < k → wr.cell? ⟨q, f + k', none⟩ = some (.int .i64 (gi (fillN L f b k') (f + k'))) := fun h => cell_rowI hrq (by rw [fillN_length]; omega)
        have hfz : wr.frozen? ⟨q, f + k', none⟩ = false := frozen_rowI hrq
        have HRQ := Lib.hid hrq
        have HRP := Lib.hid hrp
        clear hrq hrp
        go_wp2
        case roundEnd =>
          have hlt : k' < k := by assumption
          go_roundw
          case rel => exact ⟨k' + 1, by omega, by go_num, heap_setCell_rowI HRQ.out, hkeep.setCell (fun _ => rfl) _⟩
          case measure => simp [intOf]; omega
        · obtain rfl : k' = k := by omega
          have hca : wr.cell? ⟨p, 1 + a, none⟩ = some (.int .i64 (gi (cnts L) a)) := by rw [cell_block HRP.out, ← cell_block hR.hp]; exact hR.ck ha6
          have hcb : wr.cell? ⟨p, 1 + b, none⟩ = some (.int .i64 (gi (cnts L) b)) := by rw [cell_block HRP.out, ← cell_block hR.hp]; exact hR.ck hb6
          have hfa : wr.frozen? ⟨p, 1 + a, none⟩ = false := frozen_block HRP.out
          have hfb : wr.frozen? ⟨p, 1 + b, none⟩ = false := frozen_block HRP.out
          have hba : (a : Int) < 6 := by omega
          have hbb : (b : Int) < 6 := by omega
          have hab : a ≠ b := fun e => mayB_ne hm (by rw [e])
          have b1 := hR.cb ha6
          have b2 := hR.cb hb6
          have hcb' : ∀ X, (wr.setCell ⟨p, 1 + a, none⟩ X).cell? ⟨p, 1 + b, none⟩ = some (.int .i64 (gi (cnts L) b)) := fun X => by
            rw [cell_setCell_off (by omega)]; exact hcb
          clear hcb
          go_region
          go_wp2
          go_region
          go_wp2
          go_ret
          refine .inl ⟨HR.out, rfl, hR.turned h2 HR.out ha6 hb6 hab ?_ ?_, ?_⟩
          · show (((wr.setCell _ _).setCell _ _).heap[p]? = _)
            rw [heap_setCell_eq (heap_setCell_eq HRP.out)]
            simp [Nat.add_comm 1]
          · show (((wr.setCell _ _).setCell _ _).heap[q]? = _)
            rw [heap_setCell_ne (Ne.symm hpq), heap_setCell_ne (Ne.symm hpq)]
            exact HRQ.out
          · exact (((hkeep.mono (T := fun x => x = p ∨ x = q) (fun _ _ h => Or.inr h)).setCell (fun _ => Or.inl rfl) _).setCell (fun _ => Or.inl rfl) _).drew.drew

/-- What Turn answers. -/
def turnE (L : List Int) (f n a b : Int) : Int :=
  if n < 1 ∨ stateB a = false ∨ stateB b = false then 2
  else if f < 0 ∨ (L.length : Int) ≤ f ∨ (L.length : Int) - f < n then 3
  else if mayB a b = false then 5
  else if allAre L f.toNat n.toNat a then 0 else 12
/-- What the frames are behind it. -/
def turnL (L : List Int) (f n a b : Int) : List Int := if turnE L f n a b = 0 then fillN L f.toNat b n.toNat else L

set_option maxRecDepth 100000 in
set_option maxHeartbeats 400000 in
theorem turn_nil (f n a b : Int) (w : World) :
    Calls Tryz.prog 59 #[.pointer none, .int .i64 f, .int .i64 n, .int .i64 a, .int .i64 b] w fun e w' => e = .returned (.int .i64 1) ∧ w = w' := by
  go_enter Tryz.func59, Tryz.ntmps59
  go_wp2
  go_ret
  exact ⟨rfl, rfl⟩

set_option maxRecDepth 100000 in
set_option maxHeartbeats 400000 in
theorem turn_arg (p : Addr) (f n a b : Int) (w : World) (h : n < 1 ∨ (1 ≤ n ∧ (a < 0 ∨ 6 ≤ a)) ∨ (1 ≤ n ∧ 0 ≤ a ∧ a < 6 ∧ (b < 0 ∨ 6 ≤ b))) :
    Calls Tryz.prog 59 #[.pointer (some p), .int .i64 f, .int .i64 n, .int .i64 a, .int .i64 b] w fun e w' => e = .returned (.int .i64 2) ∧ w = w' := by
  rcases h with h | ⟨h1, h⟩ | ⟨h1, h2, h3, h⟩
  all_goals
    go_enter Tryz.func59, Tryz.ntmps59
    go_wp2_with (first | (go_at_call 80; refine (state_t _ _ (by omega) (by omega)).mono ?_; rintro e w' ⟨rfl, rfl⟩) | (go_at_call 80; refine (state_f _ _ (by omega)).mono ?_; rintro e w' ⟨rfl, rfl⟩))
    go_ret
    exact ⟨rfl, rfl⟩

set_option maxRecDepth 100000 in
set_option maxHeartbeats 400000 in
theorem turn_range (p q l : Nat) (f n a b : Int) (w : World) (h : w.cell? ⟨p, 0, none⟩ = some (.slice (some ⟨q, 0, none⟩) l l)) (hl : l ≤ 1024)
  (h1 : 1 ≤ n) (h2 : 0 ≤ a) (h3 : a < 6) (h4 : 0 ≤ b) (h5 : b < 6) (h6 : f < 0 ∨ (0 ≤ f ∧ (l : Int) ≤ f) ∨ (0 ≤ f ∧ f < l ∧ (l : Int) - f < n)) :
    Calls Tryz.prog 59 #[.pointer (some ⟨p, 0, none⟩), .int .i64 f, .int .i64 n, .int .i64 a, .int .i64 b] w fun e w' => e = .returned (.int .i64 3) ∧ w = w' := by
  rcases h6 with h6 | ⟨h6, h7⟩ | ⟨h6, h7, h8⟩
  all_goals
    go_enter Tryz.func59, Tryz.ntmps59
    go_wp2_with (first | (go_at_call 80; refine (state_t _ _ (by omega) (by omega)).mono ?_; rintro e w' ⟨rfl, rfl⟩) | (go_at_call 80; refine (state_f _ _ (by omega)).mono ?_; rintro e w' ⟨rfl, rfl⟩))
    go_ret
    exact ⟨rfl, rfl⟩

set_option maxRecDepth 100000 in
set_option maxHeartbeats 400000 in
theorem turn_form (p q l : Nat) (f n a b : Int) (w : World) (h : w.cell? ⟨p, 0, none⟩ = some (.slice (some ⟨q, 0, none⟩) l l)) (hl : l ≤ 1024)
  (h1 : 1 ≤ n) (h2 : 0 ≤ a) (h3 : a < 6) (h4 : 0 ≤ b) (h5 : b < 6) (h6 : 0 ≤ f) (h7 : f < l) (h8 : n ≤ (l : Int) - f) (hm : mayB a b = false) :
    Calls Tryz.prog 59 #[.pointer (some ⟨p, 0, none⟩), .int .i64 f, .int .i64 n, .int .i64 a, .int .i64 b] w fun e w' => e = .returned (.int .i64 5) ∧ w = w' := by
  go_enter Tryz.func59, Tryz.ntmps59
  go_wp2_with (first | (go_at_call 80; refine (state_t _ _ (by omega) (by omega)).mono ?_; rintro e w' ⟨rfl, rfl⟩) | (go_at_call 82; refine (may_any _ _ _).mono ?_; rintro e w' ⟨rfl, rfl⟩))
  go_ret
  exact ⟨rfl, rfl⟩

theorem stateB_iff {a : Int} : stateB a = true ↔ 0 ≤ a ∧ a < 6 := by simp [stateB]
theorem stateB_iff_f {a : Int} : stateB a = false ↔ a < 0 ∨ 6 ≤ a := by simp [stateB]; omega

theorem turn_any (p q : Nat) (L : List Int) (f n a b : Int) (w : World) (hR : RepF w p q L) :
    Calls Tryz.prog 59 #[.pointer (some ⟨p, 0, none⟩), .int .i64 f, .int .i64 n, .int .i64 a, .int .i64 b] w fun e w' =>
      e = .returned (.int .i64 (turnE L f n a b)) ∧ RepF w' p q (turnL L f n a b) ∧ Keep (fun x => x = p ∨ x = q) w w' := by
  have same : ∀ k, turnE L f n a b = k → k ≠ 0 → ∀ e w', (e = Ending.returned (.int .i64 k) ∧ w = w') →
      e = .returned (.int .i64 (turnE L f n a b)) ∧ RepF w' p q (turnL L f n a b) ∧ Keep (fun x => x = p ∨ x = q) w w' := by
    rintro k hk h0 e w' ⟨rfl, rfl⟩
    refine ⟨by rw [hk], ?_, Keep.refl _ _⟩
    unfold turnL; rw [if_neg (by rw [hk]; exact h0)]; exact hR
  by_cases c1 : n < 1 ∨ stateB a = false ∨ stateB b = false
  · refine (turn_arg ⟨p, 0, none⟩ f n a b w ?_).mono (same 2 (by unfold turnE; rw [if_pos c1]) (by decide))
    rw [stateB_iff_f, stateB_iff_f] at c1; omega
  · have c1' := c1
    rw [stateB_iff_f, stateB_iff_f] at c1'
    by_cases c2 : f < 0 ∨ (L.length : Int) ≤ f ∨ (L.length : Int) - f < n
    · exact (turn_range p q L.length f n a b w hR.c0 hR.hi (by omega) (by omega) (by omega) (by omega) (by omega) (by omega)).mono
        (same 3 (by unfold turnE; rw [if_neg c1, if_pos c2]) (by decide))
    · by_cases c3 : mayB a b = false
      · exact (turn_form p q L.length f n a b w hR.c0 hR.hi (by omega) (by omega) (by omega) (by omega) (by omega) (by omega) (by omega) (by omega) c3).mono
          (same 5 (by unfold turnE; rw [if_neg c1, if_neg c2, if_pos c3]) (by decide))
      · obtain ⟨f, rfl⟩ := Int.eq_ofNat_of_zero_le (show 0 ≤ f by omega)
        obtain ⟨n, rfl⟩ := Int.eq_ofNat_of_zero_le (show 0 ≤ n by omega)
        obtain ⟨a, rfl⟩ := Int.eq_ofNat_of_zero_le (show 0 ≤ a by omega)
        obtain ⟨b, rfl⟩ := Int.eq_ofNat_of_zero_le (show 0 ≤ b by omega)
        refine (turn_go p q L f n a b w hR (by omega) (by omega) (by omega) (by omega) (stateB_iff.2 (by omega)) (stateB_iff.2 (by omega)) (by simpa using c3)).mono ?_
        rintro e w' (⟨h1, rfl, h3, h4⟩ | ⟨h1, rfl, rfl⟩)
        · have e1 : turnE L f n a b = 0 := by unfold turnE; rw [if_neg c1, if_neg c2, if_neg c3, if_pos (by simpa using h1)]
          refine ⟨by rw [e1], ?_, h4⟩
          unfold turnL; rw [if_pos e1]; exact h3
        · exact same 12 (by unfold turnE; rw [if_neg c1, if_neg c2, if_neg c3, if_neg (by simpa using h1)]) (by decide) _ _ ⟨rfl, rfl⟩

/- Part C -/


theorem i3' : (Tryz.prog.info? 3).map (fun i => (i.zero, i.size, i.bytes)) = some (some (.int .i64 0), 1, 8) := by kernel_rfl

def isF (L : List Int) (f : Int) : Int := if f < 0 ∨ (L.length : Int) ≤ f then -1 else gi L f.toNat

set_option maxRecDepth 100000 in
set_option maxHeartbeats 400000 in
theorem is_nil (f : Int) (w : World) : Calls Tryz.prog 35 #[.pointer none, .int .i64 f] w fun e w' => e = .returned (.int .i64 (-1)) ∧ w = w' := by
  go_enter Tryz.func35, Tryz.ntmps35
  go_wp2
  go_ret
  exact ⟨rfl, rfl⟩

set_option maxRecDepth 100000 in
set_option maxHeartbeats 400000 in
theorem is_any (p q : Nat) (L : List Int) (f : Int) (w : World) (hR : RepF w p q L) :
    Calls Tryz.prog 35 #[.pointer (some ⟨p, 0, none⟩), .int .i64 f] w fun e w' => e = .returned (.int .i64 (isF L f)) ∧ w = w' := by
  have hc0 := hR.c0
  have hl := hR.hi
  by_cases c1 : f < 0
  · go_enter Tryz.func35, Tryz.ntmps35
    go_wp2
    go_ret
    exact ⟨by simp [isF, c1], rfl⟩
  · by_cases c2 : (L.length : Int) ≤ f
    · go_enter Tryz.func35, Tryz.ntmps35
      go_wp2
      go_ret
      exact ⟨by simp [isF, c2], rfl⟩
    · obtain ⟨f, rfl⟩ := Int.eq_ofNat_of_zero_le (show 0 ≤ f by omega)
      have c3 : f < L.length := by omega
      have hcell : w.cell? ⟨q, f, none⟩ = some (.int .i64 (gi L f)) := cell_rowI hR.hq (by omega)
      go_enter Tryz.func35, Tryz.ntmps35
      go_wp2
      go_ret
      exact ⟨by unfold isF; rw [if_neg (by omega)]; rfl, rfl⟩

def countF (L : List Int) (a : Int) : Int := if stateB a = true then gi (cnts L) a.toNat else 0

set_option maxRecDepth 100000 in
set_option maxHeartbeats 400000 in
theorem count_nil (f : Int) (w : World) : Calls Tryz.prog 57 #[.pointer none, .int .i64 f] w fun e w' => e = .returned (.int .i64 0) ∧ w = w' := by
  go_enter Tryz.func57, Tryz.ntmps57
  go_wp2
  go_ret
  exact ⟨rfl, rfl⟩

set_option maxRecDepth 100000 in
set_option maxHeartbeats 400000 in
theorem count_any (p q : Nat) (L : List Int) (a : Int) (w : World) (hR : RepF w p q L) :
    Calls Tryz.prog 57 #[.pointer (some ⟨p, 0, none⟩), .int .i64 a] w fun e w' => e = .returned (.int .i64 (countF L a)) ∧ w = w' := by
  by_cases c1 : stateB a = true
  · have c2 := stateB_iff.1 c1
    obtain ⟨a, rfl⟩ := Int.eq_ofNat_of_zero_le (show 0 ≤ a by omega)
    have hcell : w.cell? ⟨p, 1 + a, none⟩ = some (.int .i64 (gi (cnts L) a)) := hR.ck (by omega)
    have c3 : (a : Int) < 6 := by omega
    go_enter Tryz.func57, Tryz.ntmps57
    go_wp2_with (go_at_call 80; refine (state_any _ _).mono ?_; rintro e w' ⟨rfl, rfl⟩)
    go_ret
    exact ⟨by simp [countF, c1], rfl⟩
  · have c1' : stateB a = false := by simpa using c1
    go_enter Tryz.func57, Tryz.ntmps57
    go_wp2_with (go_at_call 80; refine (state_any _ _).mono ?_; rintro e w' ⟨rfl, rfl⟩)
    go_ret
    exact ⟨by simp [countF, c1], rfl⟩

/-- The first place from i on that holds a, of the n places that are left. -/
def nextN (L : List Int) (a : Int) (i : Nat) : Nat → Int
  | 0 => -1
  | n + 1 => if gi L i = a then i else nextN L a (i + 1) n
def nextF (L : List Int) (f a : Int) : Int := nextN L a f.toNat (L.length - f.toNat)

theorem nextN_hit {L : List Int} {a : Int} {i n : Nat} (h0 : 0 < n) (h : gi L i = a) : nextN L a i n = i := by
  obtain ⟨m, rfl⟩ : ∃ m, n = m + 1 := ⟨n - 1, by omega⟩
  simp [nextN, h]
theorem nextN_miss {L : List Int} {a : Int} {i n : Nat} (h0 : 0 < n) (h : gi L i ≠ a) : nextN L a i n = nextN L a (i + 1) (n - 1) := by
  obtain ⟨m, rfl⟩ : ∃ m, n = m + 1 := ⟨n - 1, by omega⟩
  simp [nextN, h]

/-- The reference's object at p: L. -/
structure RepR (w : World) (B p : Nat) (v : Value) (L : List Int) : Prop where
  hp : w.heap[p]? = some (.cells #[v] 67 (0, 0))
  hv : w.ownsRow B 3 1 v L.length (L.map (Value.int .i64))
  ne : v.ownBlock ≠ some p
  lo : 8 ≤ L.length
  hi : L.length ≤ 1024
  st : ∀ x, x ∈ L → 0 ≤ x ∧ x < 6

theorem RepR.form {w : World} {B p : Nat} {v : Value} {L : List Int} (h : RepR w B p v L) :
    ∃ g cap, v = .slice (some ⟨g, 0, none⟩) L.length cap ∧ B ≤ g ∧ g ≠ p ∧ L.length ≤ cap ∧ (∀ i, i < L.length → w.cell? ⟨g, i, none⟩ = some (.int .i64 (gi L i))) := by
  rcases h.hv.2 with ⟨_, h0⟩ | ⟨g, cap, cur, rfl, hB, hg, hc, _⟩
  · have := h.lo; omega
  · refine ⟨g, cap, rfl, hB, ?_, hc, fun i hi => ?_⟩
    · have := h.ne; simpa [Value.ownBlock] using this
    · rw [World.ownsRow.cellAt h.hv i (by omega)]; simp [gi, hi]

/- Part M -/


set_option maxRecDepth 100000 in
set_option maxHeartbeats 1000000 in
theorem rmay_any (a b : Nat) (w : World) (ha : a < 6) (hb : b < 6) :
    Calls Tryz.prog 95 #[.int .i64 a, .int .i64 b] w fun e w' => e = .returned (.bool (mayB a b)) ∧ Keep (fun _ => False) w w' := by
  rcases (by omega : a = 0 ∨ a = 1 ∨ a = 2 ∨ a = 3 ∨ a = 4 ∨ a = 5) with rfl | rfl | rfl | rfl | rfl | rfl <;>
  rcases (by omega : b = 0 ∨ b = 1 ∨ b = 2 ∨ b = 3 ∨ b = 4 ∨ b = 5) with rfl | rfl | rfl | rfl | rfl | rfl
  all_goals
    go_enter Tryz.func95, Tryz.ntmps95
    go_wp2
    go_ret
    exact ⟨rfl, (Keep.refl _ _).alloc _⟩

/- Part D -/

set_option maxRecDepth 100000 in
set_option maxHeartbeats 400000 in
theorem rcount_any (B p : Nat) (v : Value) (L : List Int) (a : Int) (w : World) (hR : RepR w B p v L) :
    Calls Tryz.prog 30 #[.pointer (some ⟨p, 0, none⟩), .int .i64 a] w fun e w' => e = .returned (.int .i64 (L.count a)) ∧ w = w' := by
  obtain ⟨g, cap, rfl, _, hgp, hcap, hcells⟩ := hR.form
  have hc0 : w.cell? ⟨p, 0, none⟩ = some (.slice (some ⟨g, 0, none⟩) L.length cap) := by rw [cell_block hR.hp]; rfl
  have hl := hR.hi
  have HC := Lib.hid hcells
  clear hcells
  go_enter Tryz.func30, Tryz.ntmps30
  go_wp2
  go_loop [5, 6] (fun n i => ∃ k : Nat, k ≤ L.length ∧ i = .int .i64 k ∧ n = .int .i64 ((L.take k).count a : Nat)) (fun _ i => L.length - (intOf i).toNat)
  case atStart => exact ⟨0, by omega, rfl, rfl⟩
  case round =>
    obtain ⟨k, hk, rfl, rfl⟩ := hrel
    have hcell : k < L.length → w.cell? ⟨g, k, none⟩ = some (.int .i64 (gi L k)) := fun h => HC.out k h
    have hb : (L.take k).count a ≤ k := Nat.le_trans List.count_le_length (List.length_take_le _ _)
    by_cases hlt : k < L.length
    · have HT : Hid ((L.take (k + 1)).count a = (L.take k).count a + if gi L k = a then 1 else 0) := by
        show _ = _
        rw [gi_eq hlt, List.take_succ_eq_append_getElem hlt, List.count_append, List.count_singleton]
        simp
      go_wp2
      · have h2 : (gi L k == a) = true := by assumption
        go_round
        case rel => exact ⟨k + 1, by omega, by go_num, by rw [HT.out, if_pos (by simpa using h2)]; go_num⟩
        case measure => simp [intOf]; omega
      · have h2 : (gi L k == a) = false := by assumption
        go_round
        case rel => exact ⟨k + 1, by omega, by go_num, by rw [HT.out, if_neg (by simpa using h2)]; go_num⟩
        case measure => simp [intOf]; omega
    · go_wp2
      go_ret
      exact ⟨ret_int (by rw [List.take_of_length_le (by omega)]), rfl⟩

set_option maxRecDepth 100000 in
set_option maxHeartbeats 400000 in
theorem new_no (n : Int) (w : World) (h : n < 8 ∨ 1024 < n) :
    Calls Tryz.prog 42 #[.int .i64 n] w fun e w' => e = .returned (.tuple #[.pointer none, .int .i64 2]) ∧ w = w' := by
  rcases h with h | h
  all_goals
    go_enter Tryz.func42, Tryz.ntmps42
    go_wp2
    go_ret2
    exact ⟨rfl, rfl⟩

set_option maxRecDepth 100000 in
set_option maxHeartbeats 400000 in
theorem new_yes (n : Nat) (w : World) (h : 8 ≤ n) (h' : n ≤ 1024) :
    Calls Tryz.prog 42 #[.int .i64 n] w fun e w' => ∃ p q, e = .returned (.tuple #[.pointer (some ⟨p, 0, none⟩), .int .i64 0]) ∧ RepF w' p q (List.replicate n 0) ∧ w.heap.size ≤ p ∧ w.heap.size ≤ q ∧ Keep (fun _ => False) w w' := by
  obtain ⟨i0, hi, hz0, hz1, hz2⟩ := info_parts i3'
  go_enter Tryz.func42, Tryz.ntmps42
  go_wp2_with (at_make; refine wpList_make_full _ rfl _ _ 48 rfl w.heap.size 3 i0 (.int .i64 0) 1 Tryz.underlying48 hi hz0 hz1 .i64 .i64 n n n rfl rfl rfl rfl (by rw [hz2]; omega) (by unfold maxLen; omega) (Nat.le_refl _) ?_; intro w1 hown hgrow)
  go_ret2
  have hsz := hgrow.size
  obtain ⟨hfull, hge⟩ := ownsRow_full hown
  have hlt := block_lt hfull
  refine ⟨w1.heap.size, w.heap.size, rfl, ⟨?_, ?_, by omega, by simpa using h, by simpa using h', ?_⟩, by omega, by omega, ((Keep.refl _ _).grown hgrow (by simp)).alloc _⟩
  · show ((w1.alloc _).heap[w1.heap.size]? = _)
    rw [heap_alloc_new]
    simp [cnts, cnt, List.count_replicate]
  · show ((w1.alloc _).heap[w.heap.size]? = _)
    rw [Below.heap_alloc _ _ _ hlt, hfull, Nat.mul_one]
    erw [toList_madeCells_one]
    rw [rowI, List.map_replicate]
  · intro x hx; rw [List.mem_replicate] at hx; omega

/- Part E -/


theorem own_form {w : World} {B e size n : Nat} {v : Value} {xs : List Value} (h : w.ownsRow B e size v n xs) (hn : 0 < n) :
    ∃ g cap, v = .slice (some ⟨g, 0, none⟩) n cap ∧ B ≤ g := by
  rcases h.2 with ⟨_, h0⟩ | ⟨g, cap, cur, rfl, hB, _⟩
  · omega
  · exact ⟨g, cap, rfl, hB⟩
theorem cell_alloc_lt {w : World} {o : Obj} {g i : Nat} (h : g < w.heap.size) : (w.alloc o).cell? ⟨g, i, none⟩ = w.cell? ⟨g, i, none⟩ := by apply World.cell?_alloc_past; exact h
theorem ints_at {w : World} {g : Nat} {L : List Int} (h : ∀ i, i < L.length → w.cell? ⟨g, i, none⟩ = some (.int .i64 (gi L i))) :
    ∀ j u, (L.map (Value.int .i64))[j]? = some u → w.cell? ((⟨g, 0, none⟩ : Addr).add j) = some u := by
  intro j u hu
  rw [List.getElem?_map] at hu
  have hj : j < L.length := by
    rcases Nat.lt_or_ge j L.length with h1 | h1
    · exact h1
    · rw [List.getElem?_eq_none h1] at hu; simp at hu
  rw [Addr.add_lit, Nat.zero_add, h j hj, gi_eq hj]
  simpa [hj] using hu

set_option maxRecDepth 100000 in
set_option maxHeartbeats 400000 in
theorem rturn_arg (p : Nat) (f n a b : Int) (w : World) (h : n < 1 ∨ (1 ≤ n ∧ (a < 0 ∨ 6 ≤ a)) ∨ (1 ≤ n ∧ 0 ≤ a ∧ a < 6 ∧ (b < 0 ∨ 6 ≤ b))) :
    Calls Tryz.prog 77 #[.pointer (some ⟨p, 0, none⟩), .int .i64 f, .int .i64 n, .int .i64 a, .int .i64 b] w fun e w' => e = .returned (.int .i64 2) ∧ w = w' := by
  rcases h with h | ⟨h1, h | h⟩ | ⟨h1, h2, h3, h | h⟩
  all_goals
    go_enter Tryz.func77, Tryz.ntmps77
    go_wp2
    go_ret
    exact ⟨rfl, rfl⟩

set_option maxRecDepth 100000 in
set_option maxHeartbeats 400000 in
theorem rturn_range (B p : Nat) (v : Value) (L : List Int) (f n a b : Int) (w : World) (hR : RepR w B p v L)
  (h1 : 1 ≤ n) (h2 : 0 ≤ a) (h3 : a < 6) (h4 : 0 ≤ b) (h5 : b < 6) (h6 : f < 0 ∨ (0 ≤ f ∧ (L.length : Int) ≤ f) ∨ (0 ≤ f ∧ f < L.length ∧ (L.length : Int) - f < n)) :
    Calls Tryz.prog 77 #[.pointer (some ⟨p, 0, none⟩), .int .i64 f, .int .i64 n, .int .i64 a, .int .i64 b] w fun e w' => e = .returned (.int .i64 3) ∧ w = w' := by
  obtain ⟨g, cap, rfl, _, hgp, hcap, hcells⟩ := hR.form
  have hc0 : w.cell? ⟨p, 0, none⟩ = some (.slice (some ⟨g, 0, none⟩) L.length cap) := by rw [cell_block hR.hp]; rfl
  have hl := hR.hi
  clear hcells
  rcases h6 with h6 | ⟨h6, h7⟩ | ⟨h6, h7, h8⟩
  all_goals
    go_enter Tryz.func77, Tryz.ntmps77
    go_wp2
    go_ret
    exact ⟨rfl, rfl⟩

set_option maxRecDepth 100000 in
set_option maxHeartbeats 1000000 in
theorem rturn_go (B p : Nat) (v : Value) (L : List Int) (f n a b : Nat) (w : World) (hB : B ≤ w.heap.size) (hR : RepR w B p v L)
  (h1 : 1 ≤ n) (h3 : a < 6) (h5 : b < 6) (h8 : f + n ≤ L.length) :
    Calls Tryz.prog 77 #[.pointer (some ⟨p, 0, none⟩), .int .i64 f, .int .i64 n, .int .i64 a, .int .i64 b] w fun e w' =>
      (mayB a b = false ∧ e = .returned (.int .i64 5) ∧ Keep (fun _ => False) w w') ∨
      (mayB a b = true ∧ ¬ allAre L f n a ∧ e = .returned (.int .i64 12) ∧ Keep (fun _ => False) w w') ∨
      (mayB a b = true ∧ allAre L f n a ∧ e = .returned (.int .i64 0) ∧ Keep (fun x => x = p) w w' ∧ ∃ v', RepR w' B p v' (fillN L f b n) ∧ (∀ k, v'.ownBlock = some k → w.heap.size ≤ k)) := by
  obtain ⟨g, cap, rfl, hBg, hgp, hcap, hcells⟩ := hR.form
  have hc0 : w.cell? ⟨p, 0, none⟩ = some (.slice (some ⟨g, 0, none⟩) L.length cap) := by rw [cell_block hR.hp]; rfl
  have hl := hR.hi
  have hlo := hR.lo
  have HC := Lib.hid hcells
  clear hcells
  obtain ⟨i0, hi, hz0, hz1, hz2⟩ := info_parts i3'
  have hg : g < w.heap.size := hR.hv.lt g rfl |>.2
  have hf0 : (0 : Int) ≤ f := by omega
  have hfl : f < L.length := by omega
  have hnl : (n : Int) ≤ (L.length : Int) - f := by omega
  have ha0 : (0 : Int) ≤ a := by omega
  have ha5 : (a : Int) ≤ 5 := by omega
  have hb0 : (0 : Int) ≤ b := by omega
  have hb5 : (b : Int) ≤ 5 := by omega
  have hpl := block_lt hR.hp
  by_cases hm : mayB a b = true
  case neg =>
    have hm' : mayB a b = false := by simpa using hm
    go_enter Tryz.func77, Tryz.ntmps77
    go_wp2_with (go_at_call 95; refine (rmay_any _ _ _ h3 h5).mono ?_; rintro e w1 ⟨rfl, hk1⟩)
    go_ret
    exact .inl ⟨hm', rfl, hk1⟩
  go_enter Tryz.func77, Tryz.ntmps77
  go_wp2_with (first | (go_at_call 95; refine (rmay_any _ _ _ h3 h5).mono ?_; rintro e w1 ⟨rfl, hk1⟩; have hc1 := (hk1.cell (i := 0) hpl id).trans hc0; have hpl1 := Nat.lt_of_lt_of_le hpl hk1.size; have hgl1 := Nat.lt_of_lt_of_le hg hk1.size; have HC1 := Lib.hid (fun (o : Obj) (i : Nat) (hi : i < L.length) => (cell_alloc_lt (o := o) (i := i) hgl1).trans ((hk1.cell hg id).trans (HC.out i hi)))) | (at_builtin; refine wpList_append_own _ rfl _ _ 48 rfl w1.heap.size 3 i0 (.int .i64 0) 1 8 Tryz.underlying48 hi hz0 hz1 hz2 rfl (by decide) (.slice (some ⟨w1.heap.size, 0, none⟩) 0 0) 0 [] rfl (World.ownsRow_lit _ #[] 0 (Nat.le_refl _) (by decide) rfl) ⟨g, 0, none⟩ L.length cap (L.map (Value.int .i64)) rfl (by simp) (ints_at (HC1.out _)) (ints_oneCell _ _) (by unfold maxLen; omega) (by omega) (by simp) ?_; intro v1 w2 hown hgrow _; obtain ⟨g1, cap1, rfl, hg1⟩ := own_form hown (by omega); simp only [Nat.zero_add, List.nil_append] at hown; have HO := Lib.hid hown; have HG := Lib.hid hgrow; clear hown hgrow))
  have hsz1 := hk1.size
  have hg1w : w.heap.size ≤ g1 := by omega
  have HB := Lib.hid (ownsRow_base HO.out (C := w.heap.size) (fun k hk => by simp [Value.ownBlock] at hk; omega))
  have HK2 : Hid (Keep (fun _ => False) w w2) := ((hk1.alloc (.cells #[] 3)).grown HG.out (fun k hk hlt => by simp [Value.ownBlock] at hk; omega))
  go_loopw [12] (fun i wr => ∃ k : Nat, k ≤ n ∧ i = .int .i64 (f + k : Nat) ∧ allAre L f k a ∧ wr.ownsRow w.heap.size 3 1 (.slice (some ⟨g1, 0, none⟩) L.length cap1) L.length ((fillN L f b k).map (Value.int .i64)) ∧ Keep (fun _ => False) w wr) (fun i _ => f + n - (intOf i).toNat)
  case atStart => exact ⟨0, by omega, rfl, fun j hj => by omega, HB.out, HK2.out⟩
  case round =>
    obtain ⟨k, hk, rfl, hall, hown, hkeep⟩ := hrel
    have hcell : k < n → wr.cell? ⟨g1, f + k, none⟩ = some (.int .i64 (gi L (f + k))) := fun h => by
      rw [hown.cellAt _ (by omega), List.getElem?_map, List.getElem?_eq_getElem (by rw [fillN_length]; omega), ← gi_eq, gi_fillN _ _ _ _ _ (by omega), if_neg (by omega)]; rfl
    have hfz : wr.frozen? ⟨g1, f + k, none⟩ = false := hown.frozenAt _
    have hcp : wr.cell? ⟨p, 0, none⟩ = some (.slice (some ⟨g, 0, none⟩) L.length cap) := (hkeep.cell hpl id).trans hc0
    have hfp : wr.frozen? ⟨p, 0, none⟩ = false := (hkeep.frozen hpl id).trans (frozen_block hR.hp)
    have HW := Lib.hid hown
    have HL := Lib.hid hall
    clear hown hall
    by_cases hlt : k < n
    · have hcell' := hcell hlt
      clear hcell
      go_wp2
      · have hne : (gi L (f + k) != (a : Int)) = true := by assumption
        go_ret
        exact .inr (.inl ⟨hm, fun h => by have := h k hlt; simp [this] at hne, rfl, hkeep⟩)
      · have hne : (gi L (f + k) != (a : Int)) = false := by assumption
        go_roundw
        case rel =>
          refine ⟨k + 1, by omega, by go_num, fun j hj => ?_, ?_, hkeep.setCell (fun h => ?_) _⟩
          · by_cases e : j = k
            · subst e; simpa using hne
            · exact HL.out j (by omega)
          · have := (HW.out.stored (f + k) (.int .i64 b)).1
            simpa [fillN, List.map_set] using this
          · simp at h; omega
        case measure => simp [intOf]; omega
    · obtain rfl : k = n := by omega
      clear hcell
      go_wp2
      go_ret
      refine .inr (.inr ⟨hm, HL.out, rfl, (hkeep.mono (T := fun x => x = p) (fun _ _ h => h.elim)).setCell (fun _ => rfl) _, _, ⟨heap_setCell_eq ((hkeep.block p hpl id).trans hR.hp), ?_, ?_, ?_, ?_, mem_fillN hR.st (by omega) k⟩, ?_⟩)
      · rw [fillN_length]
        exact ((Keep.refl (fun x => x = p) wr).setCell (p := ⟨p, 0, none⟩) (fun _ => rfl) _).own (ownsRow_base HW.out (fun k hk => by simp [Value.ownBlock] at hk; omega)) (fun k hk => by simp [Value.ownBlock] at hk; omega)
      · simp [Value.ownBlock]; omega
      · rw [fillN_length]; exact hlo
      · rw [fillN_length]; exact hl
      · intro k hk; simp [Value.ownBlock] at hk; omega

theorem rturn_any (B p : Nat) (v : Value) (L : List Int) (f n a b : Int) (w : World) (hB : B ≤ w.heap.size) (hR : RepR w B p v L) :
    Calls Tryz.prog 77 #[.pointer (some ⟨p, 0, none⟩), .int .i64 f, .int .i64 n, .int .i64 a, .int .i64 b] w fun e w' =>
      e = .returned (.int .i64 (turnE L f n a b)) ∧ Keep (fun x => x = p) w w' ∧ ∃ v', RepR w' B p v' (turnL L f n a b) ∧ (∀ k, v'.ownBlock = some k → v.ownBlock = some k ∨ w.heap.size ≤ k) := by
  have same : ∀ k, turnE L f n a b = k → k ≠ 0 → ∀ e w', (e = Ending.returned (.int .i64 k) ∧ Keep (fun _ => False) w w') →
      e = .returned (.int .i64 (turnE L f n a b)) ∧ Keep (fun x => x = p) w w' ∧ ∃ v', RepR w' B p v' (turnL L f n a b) ∧ (∀ k, v'.ownBlock = some k → v.ownBlock = some k ∨ w.heap.size ≤ k) := by
    rintro k hk h0 e w' ⟨rfl, hkeep⟩
    refine ⟨by rw [hk], hkeep.mono (fun _ _ h => h.elim), v, ?_, fun _ h => .inl h⟩
    unfold turnL; rw [if_neg (by rw [hk]; exact h0)]
    exact ⟨(hkeep.block p (block_lt hR.hp) id).trans hR.hp, hkeep.own hR.hv (fun _ _ h => h), hR.ne, hR.lo, hR.hi, hR.st⟩
  have same' : ∀ k, turnE L f n a b = k → k ≠ 0 → ∀ e w', (e = Ending.returned (.int .i64 k) ∧ w = w') →
      e = .returned (.int .i64 (turnE L f n a b)) ∧ Keep (fun x => x = p) w w' ∧ ∃ v', RepR w' B p v' (turnL L f n a b) ∧ (∀ k, v'.ownBlock = some k → v.ownBlock = some k ∨ w.heap.size ≤ k) := by
    rintro k hk h0 e w' ⟨rfl, rfl⟩
    exact same k hk h0 _ _ ⟨rfl, Keep.refl _ _⟩
  by_cases c1 : n < 1 ∨ stateB a = false ∨ stateB b = false
  · refine (rturn_arg p f n a b w ?_).mono (same' 2 (by unfold turnE; rw [if_pos c1]) (by decide))
    rw [stateB_iff_f, stateB_iff_f] at c1; omega
  · have c1' := c1
    rw [stateB_iff_f, stateB_iff_f] at c1'
    by_cases c2 : f < 0 ∨ (L.length : Int) ≤ f ∨ (L.length : Int) - f < n
    · exact (rturn_range B p v L f n a b w hR (by omega) (by omega) (by omega) (by omega) (by omega) (by omega)).mono
        (same' 3 (by unfold turnE; rw [if_neg c1, if_pos c2]) (by decide))
    · obtain ⟨f, rfl⟩ := Int.eq_ofNat_of_zero_le (show 0 ≤ f by omega)
      obtain ⟨n, rfl⟩ := Int.eq_ofNat_of_zero_le (show 0 ≤ n by omega)
      obtain ⟨a, rfl⟩ := Int.eq_ofNat_of_zero_le (show 0 ≤ a by omega)
      obtain ⟨b, rfl⟩ := Int.eq_ofNat_of_zero_le (show 0 ≤ b by omega)
      refine (rturn_go B p v L f n a b w hB hR (by omega) (by omega) (by omega) (by omega)).mono ?_
      rintro e w' (⟨h1, rfl, h3⟩ | ⟨h1, h2, rfl, h3⟩ | ⟨h1, h2, rfl, h3, v', h4, h5⟩)
      · exact same 5 (by unfold turnE; rw [if_neg c1, if_neg c2, if_pos h1]) (by decide) _ _ ⟨rfl, h3⟩
      · exact same 12 (by unfold turnE; rw [if_neg c1, if_neg c2, if_neg (by simp [h1]), if_neg (by simpa using h2)]) (by decide) _ _ ⟨rfl, h3⟩
      · have e1 : turnE L f n a b = 0 := by unfold turnE; rw [if_neg c1, if_neg c2, if_neg (by simp [h1]), if_pos (by simpa using h2)]
        refine ⟨by rw [e1], h3, v', ?_, fun k h => .inr (h5 k h)⟩
        unfold turnL; rw [if_pos e1]; exact h4


end Fr

end Go.Proofs.YtjffdimlbppgcaaGreat
