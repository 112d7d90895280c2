/- Kinds: the reference's find. -/
import Derived.Test.YtjffdimlbppgcaaKJ
set_option linter.unusedVariables false
set_option linter.unusedSimpArgs false
namespace Go.Proofs.Ytjffdimlbppgcaa
open Go.RowKit Go.Own

/- Part KL: Kinds: the reference's object: Of, Set, FreeOf. -/
section
variable {w : World} {X x g r cap n : Nat} {F : Nat → Bool} {M : Nat → Int}
theorem div8 (f n : Nat) (hf : f < n) (hn : n ≤ 1024) : ∃ s : Nat, f / 8 = s ∧ Int.tdiv (f : Int) 8 = (s : Int) ∧ (f : Int) / 8 = (s : Int) ∧ wrap64 (s : Int) = (s : Int) ∧ IntKind.i64.wrap (s : Int) = (s : Int) ∧ s < sec n ∧ (0 : Int) ≤ s ∧ (s : Int) < sec n :=
  ⟨f / 8, rfl, (Int.ofNat_tdiv f 8).symm, (Int.natCast_ediv f 8).symm, IntWalk.wrap64_in _ (by omega), IntWalk.i64_in _ (by omega), sec_lt hf, by omega, by have := sec_lt hf; omega⟩
end

/- Part KM: Kinds: the reference's New. -/
/-- A row of ones. -/
theorem ones_met {w : World} {C m : Nat} {v : Value} (h : OwnL inE w C 3 v (List.replicate m 1)) (hm : 0 < m) : ∃ r cap, v = .slice (some ⟨r, 0, none⟩) m cap ∧ C ≤ r ∧ MetI w r m (fun _ => 1) := by
  obtain ⟨r, cap, rfl, h1, h2, h3⟩ := h.form (by intro e; have := congrArg List.length e; simp at this; omega)
  rw [List.length_replicate] at h ⊢
  obtain ⟨c, hc⟩ := own_typ h (x := r) rfl
  have hcell : ∀ i, i < m → c[i]? = some (.int .i64 1) := fun i hi => by
    have h4 := OwnL.cell (j := 0) h (i := i) (by simpa using hi) (by decide)
    rw [cell_block hc] at h4
    simpa [inE] using h4
  refine ⟨r, cap, rfl, h1, c, hc, ?_, hcell⟩
  have h5 := hcell (m - 1) (by omega)
  rw [Array.getElem?_eq_some_iff] at h5
  obtain ⟨h6, _⟩ := h5
  omega

theorem ones_conv {w : World} {C j : Nat} {v : Value} (h : w.ownsRow C 3 1 v ((List.replicate j (1 : Int)).length + 1) (inE.cs (List.replicate j 1) ++ [.int .i64 1])) : OwnL inE w C 3 v (List.replicate (j + 1) 1) := by
  unfold OwnL
  rw [List.replicate_succ', List.length_append, inE.cs_append, inE.cs_one]
  exact h
/- Part KN: Kinds: the reference's find. -/
def fbm (z : Option Bk) : Bk := z.getD ⟨0, -1⟩
def rst1 (M : Nat → Int) (x o : Int) (g : Bool) (b : Option Bk) (y : Bk) : Option Bk := if o ≤ y.o then bst1 M x g b y else b
theorem rst_is (M : Nat → Int) (x o : Int) (g : Bool) (L : List Bk) : L.foldl (rst1 M x o g) none = bst M x g (flO o L) := (bst_filter M x o g L none).symm
theorem rst_take {M : Nat → Int} {x o : Int} {g : Bool} {L : List Bk} {j : Nat} (hj : j < L.length) : (L.take (j + 1)).foldl (rst1 M x o g) none = rst1 M x o g ((L.take j).foldl (rst1 M x o g) none) L[j] := by
  rw [List.take_succ_eq_append_getElem hj, List.foldl_append]; rfl
theorem rst1_no {M : Nat → Int} {x o : Int} {g : Bool} {z : Option Bk} {a q : Nat} (h : ¬ o ≤ (q : Int)) : rst1 M x o g z ⟨(a : Int), (q : Int)⟩ = z := by
  unfold rst1; rw [if_neg h]
theorem rst1_yes {M : Nat → Int} {x o : Int} {g : Bool} {z : Option Bk} {a q : Nat} (h : o ≤ (q : Int)) : rst1 M x o g z ⟨(a : Int), (q : Int)⟩ = bst1 M x g z ⟨(a : Int), (q : Int)⟩ := by
  unfold rst1; rw [if_pos h]
/-- The best so far is one of the row. -/
theorem rst_pos {M : Nat → Int} {x o : Int} {g : Bool} {L : List Bk} {n : Nat} (hL : ∀ y, y ∈ L → okP n y) {u : Bk} {j : Nat} (h : some u = (L.take j).foldl (rst1 M x o g) none) : 0 ≤ u.o := by
  rw [rst_is] at h
  have h1 := (bst_in h.symm).1
  unfold flO at h1
  rw [List.mem_filter] at h1
  obtain ⟨a, q, rfl, _⟩ := hL _ (List.mem_of_mem_take h1.1)
  simp
def FindC (M : Nat → Int) (x o : Int) (g : Bool) (L : List Bk) (w : World) (e : Ending) (w' : World) : Prop :=
  e = .returned (.agg #[.int .i64 (fbm (bst M x g (flO o L))).f, .int .i64 (fbm (bst M x g (flO o L))).o]) ∧ Keep (fun _ => False) w w'
def FiJ (M : Nat → Int) (x o : Int) (g : Bool) (L : List Bk) (w wr : World) (n10 n11 j : Nat) : Prop :=
  ∃ z : Option Bk, z = (L.take j).foldl (rst1 M x o g) none ∧ wr.heap[n11]? = some (.cells #[.int .i64 (fbm z).f, .int .i64 (fbm z).o] 50 (0, 0)) ∧ wr.heap[n10]? = some (.cells #[.int .i64 0, .int .i64 0] 50 (0, 0)) ∧ Keep (fun _ => False) w wr
theorem FiJ.up {M : Nat → Int} {x o : Int} {g : Bool} {L : List Bk} {w wr : World} {n10 n11 j : Nat} {z y : Option Bk} (hz : y = (L.take (j + 1)).foldl (rst1 M x o g) none) (h11 : wr.heap[n11]? = some (.cells #[.int .i64 (fbm z).f, .int .i64 (fbm z).o] 50 (0, 0))) (h10 : wr.heap[n10]? = some (.cells #[.int .i64 0, .int .i64 0] 50 (0, 0))) (hk : Keep (fun _ => False) w wr)
    (hn : n10 ≠ n11) (hw : w.heap.size ≤ n11) : FiJ M x o g L w ((wr.setCell ⟨n11, 0, none⟩ (.int .i64 (fbm y).f)).setCell ⟨n11, 1, none⟩ (.int .i64 (fbm y).o)) n10 n11 (j + 1) :=
  ⟨y, hz, set2 h11, (set2_ne hn).trans h10, (hk.setNew hw _).setNew hw _⟩

end Go.Proofs.Ytjffdimlbppgcaa
