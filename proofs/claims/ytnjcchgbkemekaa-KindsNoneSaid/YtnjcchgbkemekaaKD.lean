/- Kinds: the plain answer of Take. -/
import Derived.Test.YtnjcchgbkemekaaKC
set_option linter.unusedVariables false
set_option linter.unusedSimpArgs false
namespace Go.Proofs.Ytnjcchgbkemekaa
open Go.RowKit Go.Own

/-- Has a block an isolated section? -/
def alB (M : Nat → Int) (a k : Nat) : Bool := (List.range (2 ^ (k - 3))).any fun i => decide (M (a / 8 + i) = 3)
/-- The pieces of a block. -/
def pcB (M : Nat → Int) (x : Bk) : List Bk :=
  if x.o ≤ 3 ∨ alB M x.f.toNat x.o.toNat = false then [x] else (List.range (2 ^ (x.o.toNat - 3))).map fun (i : Nat) => (⟨x.f + 8 * i, 3⟩ : Bk)
def pcs (M : Nat → Int) (D : List Bk) : List Bk := D.flatMap (pcB M)
/-- The best so far, and one more. -/
def bst1 (M : Nat → Int) (x : Int) (great : Bool) (b : Option Bk) (y : Bk) : Option Bk :=
  if M (y.f.toNat / 8) = x then
    match b with
    | none => some y
    | some z => if (great = true ∧ z.o < y.o) ∨ (great = false ∧ y.o < z.o) then some y else some z
  else b
def bst (M : Nat → Int) (x : Int) (great : Bool) (L : List Bk) : Option Bk := L.foldl (bst1 M x great) none
/-- The kinds that are asked behind one's own. -/
def oth2 (x : Int) : Int × Int := if x = 0 then (2, 1) else if x = 1 then (2, 0) else (0, 1)
/-- Pieces of an order at least. -/
def pcO (M : Nat → Int) (D : List Bk) (o : Int) : List Bk := (pcs M D).filter fun y => decide (o ≤ y.o)
/-- What is taken: the piece, and is it of its own kind? -/
def tkP (M : Nat → Int) (D : List Bk) (o x : Int) : Option (Bk × Bool) :=
  match bst M x false (pcO M D o) with
  | some y => some (y, true)
  | none => match bst M (oth2 x).1 true (pcO M D o) with
    | some y => some (y, false)
    | none => match bst M (oth2 x).2 true (pcO M D o) with
      | some y => some (y, false)
      | none => none
/-- The kinds behind it. -/
def tkM (M : Nat → Int) (o x : Int) (y : Bk) (own : Bool) : Nat → Int := fun i =>
  if own = false ∧ 3 ≤ y.o ∧ y.f.toNat / 8 ≤ i ∧ 8 * i < y.f.toNat + 2 ^ o.toNat then x else M i

theorem bst1_mem {M : Nat → Int} {x : Int} {g : Bool} {b : Option Bk} {y z : Bk} (h : bst1 M x g b y = some z) : (b = some z) ∨ (z = y ∧ M (y.f.toNat / 8) = x) := by
  unfold bst1 at h
  split at h
  · next hm =>
    cases b with
    | none => simp at h; exact .inr ⟨h.symm, hm⟩
    | some u =>
      simp only at h
      split at h
      · simp at h; exact .inr ⟨h.symm, hm⟩
      · exact .inl h
  · exact .inl h
theorem bst_mem {M : Nat → Int} {x : Int} {g : Bool} : ∀ {L : List Bk} {b : Option Bk} {z : Bk}, L.foldl (bst1 M x g) b = some z → b = some z ∨ (z ∈ L ∧ M (z.f.toNat / 8) = x)
  | [], b, z, h => .inl h
  | y :: L, b, z, h => by
    rw [List.foldl_cons] at h
    rcases bst_mem h with h | ⟨h1, h2⟩
    · rcases bst1_mem h with h | ⟨rfl, h2⟩
      · exact .inl h
      · exact .inr ⟨List.mem_cons_self .., h2⟩
    · exact .inr ⟨List.mem_cons_of_mem _ h1, h2⟩
theorem bst_in {M : Nat → Int} {x : Int} {g : Bool} {L : List Bk} {z : Bk} (h : bst M x g L = some z) : z ∈ L ∧ M (z.f.toNat / 8) = x := by
  rcases bst_mem h with h | h
  · cases h
  · exact h
/-- The reference's way: what is too small or of another kind is passed over. -/
theorem bst_filter (M : Nat → Int) (x o : Int) (g : Bool) : ∀ (L : List Bk) (b : Option Bk), (L.filter fun y => decide (o ≤ y.o)).foldl (bst1 M x g) b = L.foldl (fun b y => if o ≤ y.o then bst1 M x g b y else b) b
  | [], b => rfl
  | y :: L, b => by
    rw [List.foldl_cons]
    by_cases h : o ≤ y.o
    · rw [List.filter_cons_of_pos (by simpa using h), List.foldl_cons, if_pos h]; exact bst_filter M x o g L _
    · rw [List.filter_cons_of_neg (by simpa using h), if_neg h]; exact bst_filter M x o g L _
/-- A piece is free, even, and lies where there are frames. -/
def fineP (F : Nat → Bool) (n : Nat) (y : Bk) : Prop := ∃ a k : Nat, y = ⟨(a : Int), (k : Int)⟩ ∧ k ≤ 8 ∧ a % 2 ^ k = 0 ∧ blk F k a ∧ a + 2 ^ k ≤ n
theorem blk_end {F : Nat → Bool} {n a k : Nat} (hF : ∀ i, F i = true → i < n) (hb : blk F k a) : a + 2 ^ k ≤ n := by
  have := p2 k
  have := hF (a + 2 ^ k - 1) (hb _ (by omega) (by omega))
  omega
theorem p8 {k : Nat} (h : 3 ≤ k) : 2 ^ k = 8 * 2 ^ (k - 3) := by
  obtain ⟨j, rfl⟩ : ∃ j, k = 3 + j := ⟨k - 3, by omega⟩
  rw [Nat.pow_add, show 3 + j - 3 = j by omega]
theorem pcs_fine {F : Nat → Bool} {M : Nat → Int} {D : List Bk} {n : Nat} (hb : IsBl F D) (hF : ∀ i, F i = true → i < n) {y : Bk} (h : y ∈ pcs M D) : fineP F n y := by
  unfold pcs at h
  rw [List.mem_flatMap] at h
  obtain ⟨x, hx, hy⟩ := h
  obtain ⟨k, a, hm, rfl⟩ := (hb.2 x).mp hx
  have hend := blk_end hF hm.2.2.1
  unfold pcB at hy
  split at hy
  · simp at hy
    subst hy
    exact ⟨a, k, rfl, hm.1, hm.2.1, hm.2.2.1, hend⟩
  · next hk =>
    simp only [Int.toNat_natCast] at hy
    rw [List.mem_map] at hy
    obtain ⟨i, hi, rfl⟩ := hy
    rw [List.mem_range] at hi
    have hk3 : 3 ≤ k := by
      rcases Nat.lt_or_ge k 3 with h | h
      · exact absurd (.inl (by simp; omega)) hk
      · exact h
    have h8 := p8 hk3
    have ha : a % 8 = 0 := by have := mod_of_le (j := 3) hk3 hm.2.1; simpa using this
    refine ⟨a + 8 * i, 3, by simp, by omega, by simp; omega, ?_, by simp; omega⟩
    exact blk_in hm.2.2.1 (by omega) (by simp; omega)

end Go.Proofs.Ytnjcchgbkemekaa
