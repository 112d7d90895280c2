/- Memory: the frames' states: the program and the reference. -/
import Derived.Test.YtjffdimlbppgcaaRB
import Derived.BigRegion
import Derived.Deep.AppendLies
set_option linter.unusedVariables false
set_option linter.unusedSimpArgs false
namespace Go.Proofs.Ytjffdimlbppgcaa
open Go.RowKit Go.Own
namespace Fr


/- Part A -/


def stateB (n : Int) : Bool := decide (0 ≤ n ∧ n < 6)
theorem stateB_t {n : Int} (h : 0 ≤ n) (h' : n < 6) : stateB n = true := by simp [stateB, h, h']
theorem stateB_f {n : Int} (h : n < 0 ∨ 6 ≤ n) : stateB n = false := by simp [stateB]; omega

set_option maxRecDepth 100000 in
set_option maxHeartbeats 400000 in
theorem state_t (n : Int) (w : World) (h0 : 0 ≤ n) (h1 : n < 6) :
    Calls Try.prog 44 #[.int .i64 n] w fun e w' => e = .returned (.bool true) ∧ w = w' := by
  go_enter Try.func44, Try.ntmps44
  go_wp2
  go_ret
  exact ⟨rfl, rfl⟩

set_option maxRecDepth 100000 in
set_option maxHeartbeats 400000 in
theorem state_any (n : Int) (w : World) :
    Calls Try.prog 44 #[.int .i64 n] w fun e w' => e = .returned (.bool (stateB n)) ∧ w = w' := by
  go_enter Try.func44, Try.ntmps44
  go_wp2
  all_goals
    go_ret
    exact ⟨by simp [stateB] <;> omega, rfl⟩

set_option maxRecDepth 100000 in
set_option maxHeartbeats 400000 in
theorem state_f (n : Int) (w : World) (h : n < 0 ∨ 6 ≤ n) :
    Calls Try.prog 44 #[.int .i64 n] w fun e w' => e = .returned (.bool false) ∧ w = w' := by
  rcases h with h | h
  all_goals
    go_enter Try.func44, Try.ntmps44
    go_wp2
    all_goals
      go_ret
      exact ⟨by simp <;> omega, rfl⟩

set_option maxRecDepth 100000 in
set_option maxHeartbeats 400000 in
theorem len_nil (w : World) :
    Calls Try.prog 33 #[.pointer none] w fun e w' => e = .returned (.int .i64 0) ∧ w = w' := by
  go_enter Try.func33, Try.ntmps33
  go_wp2
  go_ret
  exact ⟨rfl, rfl⟩

set_option maxRecDepth 100000 in
set_option maxHeartbeats 400000 in
theorem len_any (p q n : Nat) (w : World) (h : w.cell? ⟨p, 0, none⟩ = some (.slice (some ⟨q, 0, none⟩) n n)):
    Calls Try.prog 33 #[.pointer (some ⟨p, 0, none⟩)] w fun e w' => e = .returned (.int .i64 n) ∧ w = w' := by
  go_enter Try.func33, Try.ntmps33
  go_wp2
  go_ret
  exact ⟨rfl, rfl⟩

def mayB (f t : Int) : Bool := if f = t then false else if f = 0 ∨ t = 0 then true else if f = 2 then t = 4 ∨ t = 5 else t = 2 ∧ (f = 4 ∨ f = 5)

set_option maxRecDepth 100000 in
set_option maxHeartbeats 400000 in
theorem may_any (f t : Int) (w : World) :
    Calls Try.prog 49 #[.int .i64 f, .int .i64 t] w fun e w' => e = .returned (.bool (mayB f t)) ∧ w = w' := by
  go_enter Try.func49, Try.ntmps49
  go_wp2
  all_goals
    go_ret
    exact ⟨by simp_all [mayB, Bool.beq_eq_decide_eq], rfl⟩


/- Part B -/


def cnt (L : List Int) (k : Nat) : Int := (L.count (k : Int) : Int)
def cnts (L : List Int) : List Int := [cnt L 0, cnt L 1, cnt L 2, cnt L 3, cnt L 4, cnt L 5]

/-- The object at p, its row at q: L. -/
structure RepF (w : World) (p q : Nat) (L : List Int) : Prop where
  hp : w.heap[p]? = some (.cells (.slice (some ⟨q, 0, none⟩) L.length L.length :: (cnts L).map (Value.int .i64)).toArray 68 (0, 0))
  hq : w.heap[q]? = some (rowI L)
  ne : p ≠ q
  lo : 8 ≤ L.length
  hi : L.length ≤ 1024
  st : ∀ x, x ∈ L → 0 ≤ x ∧ x < 6

/-- k numbers from f on become b. -/
def fillN (L : List Int) (f : Nat) (b : Int) : Nat → List Int
  | 0 => L
  | k + 1 => (fillN L f b k).set (f + k) b
theorem fillN_length (L : List Int) (f : Nat) (b : Int) (k : Nat) : (fillN L f b k).length = L.length := by
  induction k with
  | zero => rfl
  | succ k ih => simp [fillN, ih]

/-- The n numbers from f on are all a. -/
def allAre (L : List Int) (f n : Nat) (a : Int) : Prop := ∀ j, j < n → gi L (f + j) = a
instance (L : List Int) (f n : Nat) (a : Int) : Decidable (allAre L f n a) := inferInstanceAs (Decidable (∀ j, j < n → gi L (f + j) = a))

theorem count_set {L : List Int} {i : Nat} (h : i < L.length) (b x : Int) :
    ((L.set i b).count x : Int) = L.count x - (if gi L i = x then 1 else 0) + (if b = x then 1 else 0) := by
  rw [gi_eq h]
  induction L generalizing i with
  | nil => simp at h
  | cons y L ih =>
    cases i with
    | zero =>
      simp only [List.set_cons_zero, List.count_cons, List.getElem_cons_zero, beq_iff_eq]
      split <;> split <;> simp <;> omega
    | succ i =>
      simp only [List.set_cons_succ, List.count_cons, List.getElem_cons_succ]
      have := ih (i := i) (by simpa using h)
      split <;> simp <;> omega

theorem gi_fillN (L : List Int) (f : Nat) (b : Int) (k i : Nat) (h : f + k ≤ L.length) : gi (fillN L f b k) i = if f ≤ i ∧ i < f + k then b else gi L i := by
  induction k with
  | zero => simp [fillN]; intro h1 h2; omega
  | succ k ih =>
    have ih := ih (by omega)
    simp only [fillN]
    by_cases e : f + k = i
    · subst e; rw [gi_set_eq (by rw [fillN_length]; omega), if_pos (by omega)]
    · rw [gi_set_ne e, ih]
      by_cases c : f ≤ i ∧ i < f + k
      · rw [if_pos c, if_pos (by omega)]
      · rw [if_neg c, if_neg (by omega)]

theorem count_fillN (L : List Int) (f : Nat) (a b : Int) (k : Nat) (h : f + k ≤ L.length) (ha : allAre L f k a) (x : Int) :
    ((fillN L f b k).count x : Int) = L.count x - (if a = x then (k : Int) else 0) + (if b = x then (k : Int) else 0) := by
  induction k with
  | zero => simp [fillN]
  | succ k ih =>
    have ih := ih (by omega) (fun j hj => ha j (by omega))
    simp only [fillN]
    have e1 : gi (fillN L f b k) (f + k) = a := by rw [gi_fillN _ _ _ _ _ (by omega), if_neg (by omega)]; exact ha k (by omega)
    rw [count_set (by rw [fillN_length]; omega), ih, e1]
    by_cases c1 : a = x <;> by_cases c2 : b = x <;> simp only [c1, c2, if_true, if_false] <;> omega

theorem mem_set {L : List Int} {i : Nat} {b : Int} {P : Int → Prop} (h : ∀ x, x ∈ L → P x) (hb : P b) : ∀ x, x ∈ L.set i b → P x := by
  intro x hx
  rcases List.mem_or_eq_of_mem_set hx with h1 | h1
  · exact h x h1
  · subst h1; exact hb
theorem mem_fillN {L : List Int} {f : Nat} {b : Int} {P : Int → Prop} (h : ∀ x, x ∈ L → P x) (hb : P b) (k : Nat) : ∀ x, x ∈ fillN L f b k → P x := by
  induction k with
  | zero => exact h
  | succ k ih => exact mem_set ih hb

/-- The counts behind a turn. -/
theorem cnts_turn {L : List Int} {f n a b : Nat} (h : f + n ≤ L.length) (ha : allAre L f n a) (h6 : a < 6) (h7 : b < 6) (hab : a ≠ b) :
    cnts (fillN L f b n) = ((cnts L).set a (gi (cnts L) a - n)).set b (gi (cnts L) b + n) := by
  have h0 := fun x : Nat => count_fillN L f a b n h ha x
  unfold cnts cnt
  simp only [h0]
  rcases (by omega : a = 0 ∨ a = 1 ∨ a = 2 ∨ a = 3 ∨ a = 4 ∨ a = 5) with rfl | rfl | rfl | rfl | rfl | rfl <;>
  rcases (by omega : b = 0 ∨ b = 1 ∨ b = 2 ∨ b = 3 ∨ b = 4 ∨ b = 5) with rfl | rfl | rfl | rfl | rfl | rfl <;>
  first | (exact absurd rfl hab) | (simp [gi])

theorem RepF.c0 {w : World} {p q : Nat} {L : List Int} (h : RepF w p q L) : w.cell? ⟨p, 0, none⟩ = some (.slice (some ⟨q, 0, none⟩) L.length L.length) := by
  rw [cell_block h.hp]; rfl
theorem RepF.ck {w : World} {p q : Nat} {L : List Int} (h : RepF w p q L) {a : Nat} (ha : a < 6) : w.cell? ⟨p, 1 + a, none⟩ = some (.int .i64 (gi (cnts L) a)) := by
  rw [cell_block h.hp]
  rcases (by omega : a = 0 ∨ a = 1 ∨ a = 2 ∨ a = 3 ∨ a = 4 ∨ a = 5) with rfl | rfl | rfl | rfl | rfl | rfl <;> rfl

theorem RepF.cb {w : World} {p q : Nat} {L : List Int} (h : RepF w p q L) {a : Nat} (ha : a < 6) : 0 ≤ gi (cnts L) a ∧ gi (cnts L) a ≤ 1024 := by
  have hh := h.hi
  have h0 := fun x : Nat => (List.count_le_length (a := (x : Int)) (l := L))
  have : ∀ x : Nat, 0 ≤ cnt L x ∧ cnt L x ≤ 1024 := fun x => by have := h0 x; unfold cnt; omega
  rcases (by omega : a = 0 ∨ a = 1 ∨ a = 2 ∨ a = 3 ∨ a = 4 ∨ a = 5) with rfl | rfl | rfl | rfl | rfl | rfl <;> exact this _

theorem mayB_ne {a b : Int} (h : mayB a b = true) : a ≠ b := by
  intro e; subst e; simp [mayB] at h

theorem RepF.turned {w w' : World} {p q : Nat} {L : List Int} (h : RepF w p q L) {f n a b : Nat} (h2 : f + n ≤ L.length) (ha : allAre L f n a) (h6 : a < 6) (h7 : b < 6) (hab : a ≠ b)
    (hp : w'.heap[p]? = some (.cells (.slice (some ⟨q, 0, none⟩) L.length L.length :: (((cnts L).set a (gi (cnts L) a - n)).set b (gi (cnts L) b + n)).map (Value.int .i64)).toArray 68 (0, 0)))
    (hq : w'.heap[q]? = some (rowI (fillN L f b n))) : RepF w' p q (fillN L f b n) where
  hp := by rw [fillN_length, cnts_turn h2 ha h6 h7 hab]; exact hp
  hq := hq
  ne := h.ne
  lo := by rw [fillN_length]; exact h.lo
  hi := by rw [fillN_length]; exact h.hi
  st := mem_fillN h.st (by omega) n

set_option maxRecDepth 100000 in
set_option maxHeartbeats 2000000 in
theorem turn_go (p q : Nat) (L : List Int) (f n : Nat) (a b : Nat) (w : World) (hR : RepF w p q L)
   (h1 : 1 ≤ n) (h2 : f + n ≤ L.length) (ha6 : a < 6) (hb6 : b < 6) (ha : stateB a = true) (hb : stateB b = true) (hm : mayB a b = true) :
    Calls Try.prog 29 #[.pointer (some ⟨p, 0, none⟩), .int .i64 f, .int .i64 n, .int .i64 a, .int .i64 b] w fun e w' =>
      (allAre L f n a ∧ e = .returned (.int .i64 0) ∧ RepF w' p q (fillN L f b n) ∧ Keep (fun x => x = p ∨ x = q) w w') ∨ (¬ allAre L f n a ∧ e = .returned (.int .i64 12) ∧ w = w') := by
  have hc0 := hR.c0
  have hl := hR.hi
  have hpq : p ≠ q := hR.ne
  go_enter Try.func29, Try.ntmps29
  go_wp2_with (first | (go_at_call 44; refine (state_any _ _).mono ?_; rintro e w' ⟨rfl, rfl⟩) | (go_at_call 49; refine (may_any _ _ _).mono ?_; rintro e w' ⟨rfl, rfl⟩))
  go_loop [58] (fun i => ∃ k : Nat, k ≤ n ∧ i = .int .i64 k ∧ allAre L f k a) (fun i => n - (intOf i).toNat)
  case atStart => exact ⟨0, by omega, rfl, fun j hj => by omega⟩
  case round =>
    obtain ⟨k, hk, rfl, hr⟩ := hrel
    have hcell : k < n → w.cell? ⟨q, f + k, none⟩ = some (.int .i64 (gi L (f + k))) := fun h => cell_rowI hR.hq (by omega)
    go_wp2
    case roundEnd =>
      have hlt : k < n := by assumption
      have hne : (gi L (f + k) != a) = false := by assumption
      go_round
      case rel =>
        refine ⟨k + 1, by omega, by go_num, fun j hj => ?_⟩
        by_cases e : j = k
        · subst e; simpa using hne
        · exact hr j (by omega)
      case measure => simp [intOf]; omega
    · have hlt : k < n := by assumption
      have hne : (gi L (f + k) != a) = true := by assumption
      go_ret
      exact .inr ⟨fun hall => by have := hall k hlt; simp [this] at hne, rfl, rfl⟩
    · obtain rfl : k = n := by omega
      have HR := Lib.hid hr
      clear hr hcell
      go_loopw [74] (fun i wr => ∃ k' : Nat, k' ≤ k ∧ i = .int .i64 k' ∧ wr.heap[q]? = some (rowI (fillN L f b k')) ∧ Keep (fun x => x = q) w wr) (fun i _ => k - (intOf i).toNat)
      case atStart => exact ⟨0, by omega, rfl, hR.hq, Keep.refl _ _⟩
      case round =>
        obtain ⟨k', hk', rfl, hrq, hkeep⟩ := hrel
        have hrp := (hkeep.block p (block_lt hR.hp) hpq).trans hR.hp
        have hc0 : wr.cell? ⟨p, 0, none⟩ = some (.slice (some ⟨q, 0, none⟩) L.length L.length) := by rw [cell_block hrp]; rfl
        have hc1 : k' < k → wr.cell? ⟨q, f + k', none⟩ = some (.int .i64 (gi (fillN L f b k') (f + k'))) := fun h => cell_rowI hrq (by rw [fillN_length]; omega)
        have hfz : wr.frozen? ⟨q, f + k', none⟩ = false := frozen_rowI hrq
        have HRQ := Lib.hid hrq
        have HRP := Lib.hid hrp
        clear hrq hrp
        go_wp2
        case roundEnd =>
          have hlt : k' < k := by assumption
          go_roundw
          case rel => exact ⟨k' + 1, by omega, by go_num, heap_setCell_rowI HRQ.out, hkeep.setCell (fun _ => rfl) _⟩
          case measure => simp [intOf]; omega
        · obtain rfl : k' = k := by omega
          have hca : wr.cell? ⟨p, 1 + a, none⟩ = some (.int .i64 (gi (cnts L) a)) := by rw [cell_block HRP.out, ← cell_block hR.hp]; exact hR.ck ha6
          have hcb : wr.cell? ⟨p, 1 + b, none⟩ = some (.int .i64 (gi (cnts L) b)) := by rw [cell_block HRP.out, ← cell_block hR.hp]; exact hR.ck hb6
          have hfa : wr.frozen? ⟨p, 1 + a, none⟩ = false := frozen_block HRP.out
          have hfb : wr.frozen? ⟨p, 1 + b, none⟩ = false := frozen_block HRP.out
          have hba : (a : Int) < 6 := by omega
          have hbb : (b : Int) < 6 := by omega
          have hab : a ≠ b := fun e => mayB_ne hm (by rw [e])
          have b1 := hR.cb ha6
          have b2 := hR.cb hb6
          have hcb' : ∀ X, (wr.setCell ⟨p, 1 + a, none⟩ X).cell? ⟨p, 1 + b, none⟩ = some (.int .i64 (gi (cnts L) b)) := fun X => by
            rw [cell_setCell_off (by omega)]; exact hcb
          clear hcb
          go_region
          go_wp2
          go_region
          go_wp2
          go_ret
          refine .inl ⟨HR.out, rfl, hR.turned h2 HR.out ha6 hb6 hab ?_ ?_, ?_⟩
          · show (((wr.setCell _ _).setCell _ _).heap[p]? = _)
            rw [heap_setCell_eq (heap_setCell_eq HRP.out)]
            simp [Nat.add_comm 1]
          · show (((wr.setCell _ _).setCell _ _).heap[q]? = _)
            rw [heap_setCell_ne (Ne.symm hpq), heap_setCell_ne (Ne.symm hpq)]
            exact HRQ.out
          · exact (((hkeep.mono (T := fun x => x = p ∨ x = q) (fun _ _ h => Or.inr h)).setCell (fun _ => Or.inl rfl) _).setCell (fun _ => Or.inl rfl) _).drew.drew

/-- What Turn answers. -/
def turnE (L : List Int) (f n a b : Int) : Int :=
  if n < 1 ∨ stateB a = false ∨ stateB b = false then 2
  else if f < 0 ∨ (L.length : Int) ≤ f ∨ (L.length : Int) - f < n then 3
  else if mayB a b = false then 5
  else if allAre L f.toNat n.toNat a then 0 else 12
/-- What the frames are behind it. -/
def turnL (L : List Int) (f n a b : Int) : List Int := if turnE L f n a b = 0 then fillN L f.toNat b n.toNat else L

set_option maxRecDepth 100000 in
set_option maxHeartbeats 400000 in
theorem turn_nil (f n a b : Int) (w : World) :
    Calls Try.prog 29 #[.pointer none, .int .i64 f, .int .i64 n, .int .i64 a, .int .i64 b] w fun e w' => e = .returned (.int .i64 1) ∧ w = w' := by
  go_enter Try.func29, Try.ntmps29
  go_wp2
  go_ret
  exact ⟨rfl, rfl⟩

set_option maxRecDepth 100000 in
set_option maxHeartbeats 400000 in
theorem turn_arg (p : Addr) (f n a b : Int) (w : World) (h : n < 1 ∨ (1 ≤ n ∧ (a < 0 ∨ 6 ≤ a)) ∨ (1 ≤ n ∧ 0 ≤ a ∧ a < 6 ∧ (b < 0 ∨ 6 ≤ b))) :
    Calls Try.prog 29 #[.pointer (some p), .int .i64 f, .int .i64 n, .int .i64 a, .int .i64 b] w fun e w' => e = .returned (.int .i64 2) ∧ w = w' := by
  rcases h with h | ⟨h1, h⟩ | ⟨h1, h2, h3, h⟩
  all_goals
    go_enter Try.func29, Try.ntmps29
    go_wp2_with (first | (go_at_call 44; refine (state_t _ _ (by omega) (by omega)).mono ?_; rintro e w' ⟨rfl, rfl⟩) | (go_at_call 44; refine (state_f _ _ (by omega)).mono ?_; rintro e w' ⟨rfl, rfl⟩))
    go_ret
    exact ⟨rfl, rfl⟩

set_option maxRecDepth 100000 in
set_option maxHeartbeats 400000 in
theorem turn_range (p q l : Nat) (f n a b : Int) (w : World) (h : w.cell? ⟨p, 0, none⟩ = some (.slice (some ⟨q, 0, none⟩) l l)) (hl : l ≤ 1024)
  (h1 : 1 ≤ n) (h2 : 0 ≤ a) (h3 : a < 6) (h4 : 0 ≤ b) (h5 : b < 6) (h6 : f < 0 ∨ (0 ≤ f ∧ (l : Int) ≤ f) ∨ (0 ≤ f ∧ f < l ∧ (l : Int) - f < n)) :
    Calls Try.prog 29 #[.pointer (some ⟨p, 0, none⟩), .int .i64 f, .int .i64 n, .int .i64 a, .int .i64 b] w fun e w' => e = .returned (.int .i64 3) ∧ w = w' := by
  rcases h6 with h6 | ⟨h6, h7⟩ | ⟨h6, h7, h8⟩
  all_goals
    go_enter Try.func29, Try.ntmps29
    go_wp2_with (first | (go_at_call 44; refine (state_t _ _ (by omega) (by omega)).mono ?_; rintro e w' ⟨rfl, rfl⟩) | (go_at_call 44; refine (state_f _ _ (by omega)).mono ?_; rintro e w' ⟨rfl, rfl⟩))
    go_ret
    exact ⟨rfl, rfl⟩

set_option maxRecDepth 100000 in
set_option maxHeartbeats 400000 in
theorem turn_form (p q l : Nat) (f n a b : Int) (w : World) (h : w.cell? ⟨p, 0, none⟩ = some (.slice (some ⟨q, 0, none⟩) l l)) (hl : l ≤ 1024)
  (h1 : 1 ≤ n) (h2 : 0 ≤ a) (h3 : a < 6) (h4 : 0 ≤ b) (h5 : b < 6) (h6 : 0 ≤ f) (h7 : f < l) (h8 : n ≤ (l : Int) - f) (hm : mayB a b = false) :
    Calls Try.prog 29 #[.pointer (some ⟨p, 0, none⟩), .int .i64 f, .int .i64 n, .int .i64 a, .int .i64 b] w fun e w' => e = .returned (.int .i64 5) ∧ w = w' := by
  go_enter Try.func29, Try.ntmps29
  go_wp2_with (first | (go_at_call 44; refine (state_t _ _ (by omega) (by omega)).mono ?_; rintro e w' ⟨rfl, rfl⟩) | (go_at_call 49; refine (may_any _ _ _).mono ?_; rintro e w' ⟨rfl, rfl⟩))
  go_ret
  exact ⟨rfl, rfl⟩

theorem stateB_iff {a : Int} : stateB a = true ↔ 0 ≤ a ∧ a < 6 := by simp [stateB]
theorem stateB_iff_f {a : Int} : stateB a = false ↔ a < 0 ∨ 6 ≤ a := by simp [stateB]; omega

theorem turn_any (p q : Nat) (L : List Int) (f n a b : Int) (w : World) (hR : RepF w p q L) :
    Calls Try.prog 29 #[.pointer (some ⟨p, 0, none⟩), .int .i64 f, .int .i64 n, .int .i64 a, .int .i64 b] w fun e w' =>
      e = .returned (.int .i64 (turnE L f n a b)) ∧ RepF w' p q (turnL L f n a b) ∧ Keep (fun x => x = p ∨ x = q) w w' := by
  have same : ∀ k, turnE L f n a b = k → k ≠ 0 → ∀ e w', (e = Ending.returned (.int .i64 k) ∧ w = w') →
      e = .returned (.int .i64 (turnE L f n a b)) ∧ RepF w' p q (turnL L f n a b) ∧ Keep (fun x => x = p ∨ x = q) w w' := by
    rintro k hk h0 e w' ⟨rfl, rfl⟩
    refine ⟨by rw [hk], ?_, Keep.refl _ _⟩
    unfold turnL; rw [if_neg (by rw [hk]; exact h0)]; exact hR
  by_cases c1 : n < 1 ∨ stateB a = false ∨ stateB b = false
  · refine (turn_arg ⟨p, 0, none⟩ f n a b w ?_).mono (same 2 (by unfold turnE; rw [if_pos c1]) (by decide))
    rw [stateB_iff_f, stateB_iff_f] at c1; omega
  · have c1' := c1
    rw [stateB_iff_f, stateB_iff_f] at c1'
    by_cases c2 : f < 0 ∨ (L.length : Int) ≤ f ∨ (L.length : Int) - f < n
    · exact (turn_range p q L.length f n a b w hR.c0 hR.hi (by omega) (by omega) (by omega) (by omega) (by omega) (by omega)).mono
        (same 3 (by unfold turnE; rw [if_neg c1, if_pos c2]) (by decide))
    · by_cases c3 : mayB a b = false
      · exact (turn_form p q L.length f n a b w hR.c0 hR.hi (by omega) (by omega) (by omega) (by omega) (by omega) (by omega) (by omega) (by omega) c3).mono
          (same 5 (by unfold turnE; rw [if_neg c1, if_neg c2, if_pos c3]) (by decide))
      · obtain ⟨f, rfl⟩ := Int.eq_ofNat_of_zero_le (show 0 ≤ f by omega)
        obtain ⟨n, rfl⟩ := Int.eq_ofNat_of_zero_le (show 0 ≤ n by omega)
        obtain ⟨a, rfl⟩ := Int.eq_ofNat_of_zero_le (show 0 ≤ a by omega)
        obtain ⟨b, rfl⟩ := Int.eq_ofNat_of_zero_le (show 0 ≤ b by omega)
        refine (turn_go p q L f n a b w hR (by omega) (by omega) (by omega) (by omega) (stateB_iff.2 (by omega)) (stateB_iff.2 (by omega)) (by simpa using c3)).mono ?_
        rintro e w' (⟨h1, rfl, h3, h4⟩ | ⟨h1, rfl, rfl⟩)
        · have e1 : turnE L f n a b = 0 := by unfold turnE; rw [if_neg c1, if_neg c2, if_neg c3, if_pos (by simpa using h1)]
          refine ⟨by rw [e1], ?_, h4⟩
          unfold turnL; rw [if_pos e1]; exact h3
        · exact same 12 (by unfold turnE; rw [if_neg c1, if_neg c2, if_neg c3, if_neg (by simpa using h1)]) (by decide) _ _ ⟨rfl, rfl⟩

/- Part C -/


theorem i3' : (Try.prog.info? 3).map (fun i => (i.zero, i.size, i.bytes)) = some (some (.int .i64 0), 1, 8) := by kernel_rfl

def isF (L : List Int) (f : Int) : Int := if f < 0 ∨ (L.length : Int) ≤ f then -1 else gi L f.toNat

set_option maxRecDepth 100000 in
set_option maxHeartbeats 400000 in
theorem is_nil (f : Int) (w : World) : Calls Try.prog 30 #[.pointer none, .int .i64 f] w fun e w' => e = .returned (.int .i64 (-1)) ∧ w = w' := by
  go_enter Try.func30, Try.ntmps30
  go_wp2
  go_ret
  exact ⟨rfl, rfl⟩

set_option maxRecDepth 100000 in
set_option maxHeartbeats 400000 in
theorem is_any (p q : Nat) (L : List Int) (f : Int) (w : World) (hR : RepF w p q L) :
    Calls Try.prog 30 #[.pointer (some ⟨p, 0, none⟩), .int .i64 f] w fun e w' => e = .returned (.int .i64 (isF L f)) ∧ w = w' := by
  have hc0 := hR.c0
  have hl := hR.hi
  by_cases c1 : f < 0
  · go_enter Try.func30, Try.ntmps30
    go_wp2
    go_ret
    exact ⟨by simp [isF, c1], rfl⟩
  · by_cases c2 : (L.length : Int) ≤ f
    · go_enter Try.func30, Try.ntmps30
      go_wp2
      go_ret
      exact ⟨by simp [isF, c2], rfl⟩
    · obtain ⟨f, rfl⟩ := Int.eq_ofNat_of_zero_le (show 0 ≤ f by omega)
      have c3 : f < L.length := by omega
      have hcell : w.cell? ⟨q, f, none⟩ = some (.int .i64 (gi L f)) := cell_rowI hR.hq (by omega)
      go_enter Try.func30, Try.ntmps30
      go_wp2
      go_ret
      exact ⟨by unfold isF; rw [if_neg (by omega)]; rfl, rfl⟩

def countF (L : List Int) (a : Int) : Int := if stateB a = true then gi (cnts L) a.toNat else 0

set_option maxRecDepth 100000 in
set_option maxHeartbeats 400000 in
theorem count_nil (f : Int) (w : World) : Calls Try.prog 23 #[.pointer none, .int .i64 f] w fun e w' => e = .returned (.int .i64 0) ∧ w = w' := by
  go_enter Try.func23, Try.ntmps23
  go_wp2
  go_ret
  exact ⟨rfl, rfl⟩

set_option maxRecDepth 100000 in
set_option maxHeartbeats 400000 in
theorem count_any (p q : Nat) (L : List Int) (a : Int) (w : World) (hR : RepF w p q L) :
    Calls Try.prog 23 #[.pointer (some ⟨p, 0, none⟩), .int .i64 a] w fun e w' => e = .returned (.int .i64 (countF L a)) ∧ w = w' := by
  by_cases c1 : stateB a = true
  · have c2 := stateB_iff.1 c1
    obtain ⟨a, rfl⟩ := Int.eq_ofNat_of_zero_le (show 0 ≤ a by omega)
    have hcell : w.cell? ⟨p, 1 + a, none⟩ = some (.int .i64 (gi (cnts L) a)) := hR.ck (by omega)
    have c3 : (a : Int) < 6 := by omega
    go_enter Try.func23, Try.ntmps23
    go_wp2_with (go_at_call 44; refine (state_any _ _).mono ?_; rintro e w' ⟨rfl, rfl⟩)
    go_ret
    exact ⟨by simp [countF, c1], rfl⟩
  · have c1' : stateB a = false := by simpa using c1
    go_enter Try.func23, Try.ntmps23
    go_wp2_with (go_at_call 44; refine (state_any _ _).mono ?_; rintro e w' ⟨rfl, rfl⟩)
    go_ret
    exact ⟨by simp [countF, c1], rfl⟩

/-- The first place from i on that holds a, of the n places that are left. -/
def nextN (L : List Int) (a : Int) (i : Nat) : Nat → Int
  | 0 => -1
  | n + 1 => if gi L i = a then i else nextN L a (i + 1) n
def nextF (L : List Int) (f a : Int) : Int := nextN L a f.toNat (L.length - f.toNat)

theorem nextN_hit {L : List Int} {a : Int} {i n : Nat} (h0 : 0 < n) (h : gi L i = a) : nextN L a i n = i := by
  obtain ⟨m, rfl⟩ : ∃ m, n = m + 1 := ⟨n - 1, by omega⟩
  simp [nextN, h]
theorem nextN_miss {L : List Int} {a : Int} {i n : Nat} (h0 : 0 < n) (h : gi L i ≠ a) : nextN L a i n = nextN L a (i + 1) (n - 1) := by
  obtain ⟨m, rfl⟩ : ∃ m, n = m + 1 := ⟨n - 1, by omega⟩
  simp [nextN, h]

/- Part M -/


/- Part D -/

set_option maxRecDepth 100000 in
set_option maxHeartbeats 400000 in
theorem new_no (n : Int) (w : World) (h : n < 8 ∨ 1024 < n) :
    Calls Try.prog 43 #[.int .i64 n] w fun e w' => e = .returned (.tuple #[.pointer none, .int .i64 2]) ∧ w = w' := by
  rcases h with h | h
  all_goals
    go_enter Try.func43, Try.ntmps43
    go_wp2
    go_ret2
    exact ⟨rfl, rfl⟩

set_option maxRecDepth 100000 in
set_option maxHeartbeats 400000 in
theorem new_yes (n : Nat) (w : World) (h : 8 ≤ n) (h' : n ≤ 1024) :
    Calls Try.prog 43 #[.int .i64 n] w fun e w' => ∃ p q, e = .returned (.tuple #[.pointer (some ⟨p, 0, none⟩), .int .i64 0]) ∧ RepF w' p q (List.replicate n 0) ∧ w.heap.size ≤ p ∧ w.heap.size ≤ q ∧ Keep (fun _ => False) w w' := by
  obtain ⟨i0, hi, hz0, hz1, hz2⟩ := info_parts i3'
  go_enter Try.func43, Try.ntmps43
  go_wp2_with (at_make; refine wpList_make_full _ rfl _ _ 56 rfl w.heap.size 3 i0 (.int .i64 0) 1 Try.underlying56 hi hz0 hz1 .i64 .i64 n n n rfl rfl rfl rfl (by rw [hz2]; omega) (by unfold maxLen; omega) (Nat.le_refl _) ?_; intro w1 hown hgrow)
  go_ret2
  have hsz := hgrow.size
  obtain ⟨hfull, hge⟩ := ownsRow_full hown
  have hlt := block_lt hfull
  refine ⟨w1.heap.size, w.heap.size, rfl, ⟨?_, ?_, by omega, by simpa using h, by simpa using h', ?_⟩, by omega, by omega, ((Keep.refl _ _).grown hgrow (by simp)).alloc _⟩
  · show ((w1.alloc _).heap[w1.heap.size]? = _)
    rw [heap_alloc_new]
    simp [cnts, cnt, List.count_replicate]
  · show ((w1.alloc _).heap[w.heap.size]? = _)
    rw [Below.heap_alloc _ _ _ hlt, hfull, Nat.mul_one]
    erw [toList_madeCells_one]
    rw [rowI, List.map_replicate]
  · intro x hx; rw [List.mem_replicate] at hx; omega

/- Part E -/


theorem own_form {w : World} {B e size n : Nat} {v : Value} {xs : List Value} (h : w.ownsRow B e size v n xs) (hn : 0 < n) :
    ∃ g cap, v = .slice (some ⟨g, 0, none⟩) n cap ∧ B ≤ g := by
  rcases h.2 with ⟨_, h0⟩ | ⟨g, cap, cur, rfl, hB, _⟩
  · omega
  · exact ⟨g, cap, rfl, hB⟩
theorem cell_alloc_lt {w : World} {o : Obj} {g i : Nat} (h : g < w.heap.size) : (w.alloc o).cell? ⟨g, i, none⟩ = w.cell? ⟨g, i, none⟩ := by apply World.cell?_alloc_past; exact h
theorem ints_at {w : World} {g : Nat} {L : List Int} (h : ∀ i, i < L.length → w.cell? ⟨g, i, none⟩ = some (.int .i64 (gi L i))) :
    ∀ j u, (L.map (Value.int .i64))[j]? = some u → w.cell? ((⟨g, 0, none⟩ : Addr).add j) = some u := by
  intro j u hu
  rw [List.getElem?_map] at hu
  have hj : j < L.length := by
    rcases Nat.lt_or_ge j L.length with h1 | h1
    · exact h1
    · rw [List.getElem?_eq_none h1] at hu; simp at hu
  rw [Addr.add_lit, Nat.zero_add, h j hj, gi_eq hj]
  simpa [hj] using hu

end Fr

end Go.Proofs.Ytjffdimlbppgcaa
