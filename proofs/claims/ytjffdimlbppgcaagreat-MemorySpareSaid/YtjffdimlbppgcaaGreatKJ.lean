/- Kinds: awake. -/
import Derived.Test.YtjffdimlbppgcaaGreatKI
set_option linter.unusedVariables false
set_option linter.unusedSimpArgs false
namespace Go.Proofs.YtjffdimlbppgcaaGreat
open Go.RowKit Go.Own

def mxB (F : Nat → Bool) (k a : Nat) : Bool := decide (k ≤ 8) && (decide (a % 2 ^ k = 0) && ((List.range (2 ^ k)).all (fun i => F (a + i)) && !(decide (k < 8) && (List.range (2 ^ (k + 1))).all (fun i => F (dn (k + 1) a + i)))))
theorem all_blk (F : Nat → Bool) (k a : Nat) : (List.range (2 ^ k)).all (fun i => F (a + i)) = true ↔ blk F k a := by
  rw [List.all_eq_true]
  constructor
  · intro h i h1 h2
    have := h (i - a) (List.mem_range.mpr (by omega))
    rwa [show a + (i - a) = i by omega] at this
  · intro h i hi
    rw [List.mem_range] at hi
    exact h (a + i) (by omega) (by omega)
theorem mxB_iff (F : Nat → Bool) (k a : Nat) : mxB F k a = true ↔ mx F k a := by
  unfold mxB mx
  simp only [Bool.and_eq_true, decide_eq_true_eq, all_blk, Bool.not_eq_true', Bool.and_eq_false_iff, decide_eq_false_iff_not]
  constructor
  · rintro ⟨h1, h2, h3, h4⟩
    refine ⟨h1, h2, h3, fun h => ?_⟩
    rcases h4 with h4 | h4
    · exact h4 h.1
    · rw [← Bool.not_eq_true, all_blk] at h4; exact h4 h.2
  · rintro ⟨h1, h2, h3, h4⟩
    refine ⟨h1, h2, h3, ?_⟩
    by_cases h : k < 8
    · right; rw [← Bool.not_eq_true, all_blk]; exact fun hb => h4 ⟨h, hb⟩
    · exact .inl h
def toB (E : List (Nat × Nat)) : List Bk := E.map fun p => ⟨(p.1 : Int), (p.2 : Int)⟩
def chk (F : Nat → Bool) (n : Nat) (E : List (Nat × Nat)) : Bool :=
  E.all (fun p => mxB F p.2 p.1) && (List.range n).all (fun a => (List.range 9).all fun k => !mxB F k a || E.contains (a, k))
theorem isBl_conc {F : Nat → Bool} {D : List Bk} {n : Nat} (E : List (Nat × Nat)) (hF : ∀ i, F i = true → i < n) (h : IsBl F D) (hc : chk F n E = true) (hs : (toB E).Pairwise (fun x y => x.f < y.f)) : D = toB E := by
  unfold chk at hc
  rw [Bool.and_eq_true, List.all_eq_true, List.all_eq_true] at hc
  refine isBl_len h _ hs fun x => ?_
  unfold toB
  rw [List.mem_map]
  constructor
  · rintro ⟨⟨a, k⟩, hm, rfl⟩
    exact ⟨k, a, (mxB_iff _ _ _).mp (hc.1 _ hm), rfl⟩
  · rintro ⟨k, a, hm, rfl⟩
    have h1 := hc.2 a (List.mem_range.mpr (mx_lt hF hm))
    rw [List.all_eq_true] at h1
    have h2 := h1 k (List.mem_range.mpr (by have := hm.1; omega))
    rw [(mxB_iff _ _ _).mpr hm] at h2
    simp at h2
    exact ⟨(a, k), h2, rfl⟩
def aF1 : Nat → Bool := subB (upTo 16) 0 0
def aM1 : Nat → Int := tkM (fun _ => 1) ((0 : Nat) : Int) 0 ⟨0, 4⟩ false
def aF2 : Nat → Bool := subB aF1 0 8
def aM2 : Nat → Int := tkM aM1 ((0 : Nat) : Int) 1 ⟨8, 3⟩ true
theorem aw_1 {D : List Bk} (h : IsBl (upTo 16) D) : tkP (fun _ => 1) D ((0 : Nat) : Int) 0 = some (⟨0, 4⟩, false) := by
  rw [isBl_conc [(0, 4)] (fun i hi => by simpa [upTo] using hi) h (by decide +kernel) (by decide +kernel)]
  decide +kernel
theorem aw_fin {F : Nat → Bool} {k a : Nat} (hF : ∀ i, F i = true → i < 16) : ∀ i, subB F k a i = true → i < 16 := fun i hi => hF i ((subB_iff _ _ _ _).mp hi).1
theorem aw_2 {D : List Bk} (h : IsBl aF1 D) : tkP aM1 D ((0 : Nat) : Int) 1 = some (⟨8, 3⟩, true) := by
  rw [isBl_conc [(1, 0), (2, 1), (4, 2), (8, 3)] (aw_fin fun i hi => by simpa [upTo] using hi) h (by decide +kernel) (by decide +kernel)]
  decide +kernel
theorem aw_3 {D : List Bk} (h : IsBl aF2 D) : tkP aM2 D ((0 : Nat) : Int) 0 = some (⟨1, 0⟩, true) := by
  rw [isBl_conc [(1, 0), (2, 1), (4, 2), (9, 0), (10, 1), (12, 2)] (aw_fin (aw_fin fun i hi => by simpa [upTo] using hi)) h (by decide +kernel) (by decide +kernel)]
  decide +kernel

end Go.Proofs.YtjffdimlbppgcaaGreat
