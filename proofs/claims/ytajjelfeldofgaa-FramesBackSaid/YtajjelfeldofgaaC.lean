/- The looks; the reference. -/
import Derived.Test.YtajjelfeldofgaaB
namespace Go.Proofs.Ytajjelfeldofgaa
open Go.RowKit Go.Own

theorem Try.info3' : (Try.prog.info? 3).map (fun i => (i.zero, i.size, i.bytes)) = some (some (.int .i64 0), 1, 8) := by kernel_rfl

def isF (L : List Int) (f : Int) : Int := if f < 0 ∨ (L.length : Int) ≤ f then -1 else gi L f.toNat

set_option maxHeartbeats 400000 in
theorem is_nil (f : Int) (w : World) : Calls Try.prog 16 #[.pointer none, .int .i64 f] w fun e w' => e = .returned (.int .i64 (-1)) ∧ w = w' := by
  go_enter Try.func16, Try.ntmps16
  go_wp2
  go_ret
  exact ⟨rfl, rfl⟩

set_option maxHeartbeats 400000 in
theorem is_any (p q : Nat) (L : List Int) (f : Int) (w : World) (hR : RepF w p q L) :
    Calls Try.prog 16 #[.pointer (some ⟨p, 0, none⟩), .int .i64 f] w fun e w' => e = .returned (.int .i64 (isF L f)) ∧ w = w' := by
  have hc0 := hR.c0
  have hl := hR.hi
  by_cases c1 : f < 0
  · go_enter Try.func16, Try.ntmps16
    go_wp2
    go_ret
    exact ⟨by simp [isF, c1], rfl⟩
  · by_cases c2 : (L.length : Int) ≤ f
    · go_enter Try.func16, Try.ntmps16
      go_wp2
      go_ret
      exact ⟨by simp [isF, c2], rfl⟩
    · obtain ⟨f, rfl⟩ := Int.eq_ofNat_of_zero_le (show 0 ≤ f by omega)
      have c3 : f < L.length := by omega
      have hcell : w.cell? ⟨q, f, none⟩ = some (.int .i64 (gi L f)) := cell_rowI hR.hq (by omega)
      go_enter Try.func16, Try.ntmps16
      go_wp2
      go_ret
      exact ⟨by unfold isF; rw [if_neg (by omega)]; rfl, rfl⟩

def countF (L : List Int) (a : Int) : Int := if stateB a = true then gi (cnts L) a.toNat else 0

set_option maxHeartbeats 400000 in
theorem count_nil (f : Int) (w : World) : Calls Try.prog 11 #[.pointer none, .int .i64 f] w fun e w' => e = .returned (.int .i64 0) ∧ w = w' := by
  go_enter Try.func11, Try.ntmps11
  go_wp2
  go_ret
  exact ⟨rfl, rfl⟩

set_option maxHeartbeats 400000 in
theorem count_any (p q : Nat) (L : List Int) (a : Int) (w : World) (hR : RepF w p q L) :
    Calls Try.prog 11 #[.pointer (some ⟨p, 0, none⟩), .int .i64 a] w fun e w' => e = .returned (.int .i64 (countF L a)) ∧ w = w' := by
  by_cases c1 : stateB a = true
  · have c2 := stateB_iff.1 c1
    obtain ⟨a, rfl⟩ := Int.eq_ofNat_of_zero_le (show 0 ≤ a by omega)
    have hcell : w.cell? ⟨p, 1 + a, none⟩ = some (.int .i64 (gi (cnts L) a)) := hR.ck (by omega)
    have c3 : (a : Int) < 6 := by omega
    go_enter Try.func11, Try.ntmps11
    go_wp2_with (go_at_call 21; refine (state_any _ _).mono ?_; rintro e w' ⟨rfl, rfl⟩)
    go_ret
    exact ⟨by simp [countF, c1], rfl⟩
  · have c1' : stateB a = false := by simpa using c1
    go_enter Try.func11, Try.ntmps11
    go_wp2_with (go_at_call 21; refine (state_any _ _).mono ?_; rintro e w' ⟨rfl, rfl⟩)
    go_ret
    exact ⟨by simp [countF, c1], rfl⟩

/-- The first place from i on that holds a, of the n places that are left. -/
def nextN (L : List Int) (a : Int) (i : Nat) : Nat → Int
  | 0 => -1
  | n + 1 => if gi L i = a then i else nextN L a (i + 1) n
def nextF (L : List Int) (f a : Int) : Int := nextN L a f.toNat (L.length - f.toNat)

theorem nextN_hit {L : List Int} {a : Int} {i n : Nat} (h0 : 0 < n) (h : gi L i = a) : nextN L a i n = i := by
  obtain ⟨m, rfl⟩ : ∃ m, n = m + 1 := ⟨n - 1, by omega⟩
  simp [nextN, h]
theorem nextN_miss {L : List Int} {a : Int} {i n : Nat} (h0 : 0 < n) (h : gi L i ≠ a) : nextN L a i n = nextN L a (i + 1) (n - 1) := by
  obtain ⟨m, rfl⟩ : ∃ m, n = m + 1 := ⟨n - 1, by omega⟩
  simp [nextN, h]

set_option maxHeartbeats 400000 in
theorem next_nil (f a : Int) (w : World) : Calls Try.prog 14 #[.pointer none, .int .i64 f, .int .i64 a] w fun e w' => e = .returned (.int .i64 (-1)) ∧ w = w' := by
  go_enter Try.func14, Try.ntmps14
  go_wp2
  all_goals
    refine wp_loop_once ?_
    go_wp2_with (go_at_call 12; refine (len_nil _).mono ?_; rintro e w' ⟨rfl, rfl⟩)
    go_ret
    exact ⟨rfl, rfl⟩

set_option maxHeartbeats 1000000 in
theorem next_any (p q : Nat) (L : List Int) (f a : Int) (w : World) (hR : RepF w p q L) (hf : f ≤ 9223372036854775807) :
    Calls Try.prog 14 #[.pointer (some ⟨p, 0, none⟩), .int .i64 f, .int .i64 a] w fun e w' => e = .returned (.int .i64 (nextF L f a)) ∧ w = w' := by
  have hc0 := hR.c0
  have hl := hR.hi
  go_enter Try.func14, Try.ntmps14
  go_wp2
  all_goals
    go_loop [7] (fun i => ∃ k : Nat, f.toNat ≤ k ∧ (k : Int) ≤ 9223372036854775807 ∧ i = .int .i64 k ∧ nextF L f a = nextN L a k (L.length - k)) (fun i => L.length - (intOf i).toNat)
    case atStart => first | exact ⟨0, by omega, by omega, rfl, by unfold nextF; rw [show f.toNat = 0 by omega]⟩ | exact ⟨f.toNat, by omega, by omega, by congr 1; omega, rfl⟩
    case round =>
      obtain ⟨k, hk, hk2, rfl, hr⟩ := hrel
      have HR := Lib.hid hr
      clear hr
      have hcell : k < L.length → w.cell? ⟨q, k, none⟩ = some (.int .i64 (gi L k)) := fun h => cell_rowI hR.hq (by omega)
      go_wp2_with (go_at_call 12; refine (len_any p q _ _ hc0).mono ?_; rintro e w' ⟨rfl, rfl⟩)
      case roundEnd =>
        have h1 : k < L.length := by assumption
        have h2 : (gi L k == a) = false := by assumption
        go_round
        case rel => exact ⟨k + 1, by omega, by omega, by go_num, by rw [HR.out, nextN_miss (by omega) (by simpa using h2), Nat.sub_sub]⟩
        case measure => simp [intOf]; omega
      · have h1 : k < L.length := by assumption
        have h2 : (gi L k == a) = true := by assumption
        go_ret
        exact ⟨ret_int (by rw [HR.out, nextN_hit (by omega) (by simpa using h2)]), rfl⟩
      · have h1 : ¬ k < L.length := by assumption
        go_ret
        exact ⟨ret_int (by rw [HR.out, show L.length - k = 0 by omega]; rfl), rfl⟩

/-- The reference's object at p: L. -/
structure RepR (w : World) (B p : Nat) (v : Value) (L : List Int) : Prop where
  hp : w.heap[p]? = some (.cells #[v] 33 (0, 0))
  hv : w.ownsRow B 3 1 v L.length (L.map (Value.int .i64))
  ne : v.ownBlock ≠ some p
  lo : 8 ≤ L.length
  hi : L.length ≤ 1024
  st : ∀ x, x ∈ L → 0 ≤ x ∧ x < 6

theorem RepR.form {w : World} {B p : Nat} {v : Value} {L : List Int} (h : RepR w B p v L) :
    ∃ g cap, v = .slice (some ⟨g, 0, none⟩) L.length cap ∧ B ≤ g ∧ g ≠ p ∧ L.length ≤ cap ∧ (∀ i, i < L.length → w.cell? ⟨g, i, none⟩ = some (.int .i64 (gi L i))) := by
  rcases h.hv.2 with ⟨_, h0⟩ | ⟨g, cap, cur, rfl, hB, hg, hc, _⟩
  · have := h.lo; omega
  · refine ⟨g, cap, rfl, hB, ?_, hc, fun i hi => ?_⟩
    · have := h.ne; simpa [Value.ownBlock] using this
    · rw [World.ownsRow.cellAt h.hv i (by omega)]; simp [gi, hi]

end Go.Proofs.Ytajjelfeldofgaa
