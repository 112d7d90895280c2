/- Buddy: slices.BinarySearch, Delete, Insert at rows of numbers. -/
import Derived.Test.YtnjcchgbkemekaaB
import Derived.Test.YtnjcchgbkemekaaL1
import Derived.Test.YtnjcchgbkemekaaL2
import Derived.Shelf.SlicesG.SearchI
import Derived.Shelf.SlicesG.Delete
set_option linter.unusedVariables false
set_option linter.unusedSimpArgs false
namespace Go.Proofs.Ytnjcchgbkemekaa
open Go.RowKit Go.Own

theorem bs_empty (a : Option Addr) (c : Nat) (x : Int) (w : World) : Calls Try.prog 60 #[.slice a 0 c, .int .i64 x] w fun e w' => e = .returned (.tuple #[.int .i64 0, .bool false]) ∧ Keep (fun _ => False) w w' := by
  go_enter Try.func60, Try.ntmps60
  go_wp2
  refine wp_loop_once ?_
  go_wp2
  go_ret2
  exact ⟨rfl, (by (repeat (first | exact Keep.refl _ _ | exact Keep.refl _ _ | refine Keep.drew ?_ | refine Keep.drewN ?_ _ | refine Keep.alloc ?_ _ | refine Keep.setNew ?_ (by omega) _)); done)⟩

theorem bs_any (B : Nat) (v : Value) (L : List Int) (x : Int) (w : World) (hv : OwnL inE w B 3 v L) (hs : L.Pairwise (· ≤ ·)) (hl : L.length ≤ 2000) :
    Calls Try.prog 60 #[v, .int .i64 x] w fun e w' => e = .returned (.tuple #[.int .i64 (L.countP (· < x) : Nat), .bool (L.contains x)]) ∧ Keep (fun _ => False) w w' := by
  by_cases hn : L = []
  · subst hn
    obtain ⟨a, c, rfl, -⟩ := hv.slice
    refine (bs_empty a c x w).mono ?_
    rintro e w' ⟨rfl, hk⟩
    exact ⟨rfl, hk⟩
  · obtain ⟨g, cap, rfl, -⟩ := hv.form hn
    have hcon := AnyG.slices_BinarySearch_int bsI g 0 L.length cap L x w (Nat.le_refl _) (by omega) (fun j hj => by
      rw [Nat.zero_add, in_cell hv hj]; simp [hj]) (by rw [List.take_length]; exact hs)
    rw [List.take_length] at hcon
    refine Calls.mono (show Calls Try.prog 60 _ w _ from hcon) ?_
    rintro e w' ⟨rfl, q, rfl⟩
    exact ⟨rfl, (Keep.refl _ _).drewN _⟩

theorem own_put {w : World} {B g cap n k q : Nat} {L M : List Int} (h : OwnL inE w B 3 (.slice (some ⟨g, 0, none⟩) n cap) L) (hM : M.length = L.length) (hk : k ≤ M.length) :
    OwnL inE (Sort.putRow (Value.int .i64) (Sort.ahead w q) g 0 M.toArray) B 3 (.slice (some ⟨g, 0, none⟩) k cap) (M.take k) ∧ Keep (fun z => z = g) w (Sort.putRow (Value.int .i64) (Sort.ahead w q) g 0 M.toArray) := by
  obtain ⟨cur, hn, hg, hc, hm, hl, ht, hB⟩ := h.block
  have hk1 : inE.k = 1 := rfl
  rw [hk1, Nat.mul_one] at hl
  refine ⟨OwnL.of_block (cur := (Sort.putCells (Value.int .i64) 0 M.toArray cur.toArray).toList) ?_ (by simp; omega) (by omega) hm (by simp [Sort.putCells, hl, hk1]) ?_ hB, rfl, rfl, rfl, by simp [Sort.putRow, Sort.mapBlock, Sort.ahead], fun z hz hs => ?_⟩
  · unfold Sort.putRow Sort.mapBlock Sort.ahead
    simp only
    rw [Array.getElem?_modify, if_pos rfl, hg]
    simp [Sort.onCells]
  · apply List.ext_getElem?
    intro t
    rw [List.getElem?_take, List.length_take, hk1, Nat.mul_one, Nat.min_eq_left hk]
    by_cases ht2 : t < k
    · rw [if_pos ht2, Array.getElem?_toList]
      have htc : t < cur.toArray.size := by simp [hl]; omega
      have htm : t < M.length := by omega
      have htk : t < (M.take k).length := by simp; omega
      simp only [Sort.putCells, Array.getElem?_mapIdx, Array.getElem?_eq_getElem htc, Option.map_some]
      have h1 := inE.cs_at (L := M.take k) (i := t) (j := 0) htk (by decide)
      rw [hk1, Nat.mul_one, Nat.add_zero] at h1
      rw [h1, if_pos (by simp; omega), Nat.sub_zero]
      simp [inE, htm]
    · rw [if_neg ht2, List.getElem?_eq_none (by rw [inE.cs_length, hk1]; simp; omega)]
  · unfold Sort.putRow Sort.mapBlock Sort.ahead
    simp only
    rw [Array.getElem?_modify, if_neg (fun e => hs e.symm)]

theorem del_any (B g cap i : Nat) (L : List Int) (w : World) (hv : OwnL inE w B 3 (.slice (some ⟨g, 0, none⟩) L.length cap) L) (hi : i < L.length) :
    Calls Try.prog 61 #[.slice (some ⟨g, 0, none⟩) L.length cap, .int .i64 i, .int .i64 ((i : Int) + 1)] w fun e w' => e = .returned (.slice (some ⟨g, 0, none⟩) (L.length - 1) cap) ∧ OwnL inE w' B 3 (.slice (some ⟨g, 0, none⟩) (L.length - 1) cap) (L.take i ++ L.drop (i + 1)) ∧ Keep (fun z => z = g) w w' := by
  obtain ⟨cur, hn, hg, hc, hm, hl, ht, hB⟩ := hv.block
  have hH : Sort.Holds (Value.int .i64) w g 0 L.toArray := fun j hj => by
    have hj' : j < L.length := by simpa using hj
    refine ⟨?_, hv.frozen _⟩
    rw [Nat.zero_add, in_cell hv hj']; simp [hj']
  have hcon := AnyG.slices_Delete_int dlI g 0 cap i (i + 1) L w hH hc (by unfold maxLen at hm; omega) (by omega) (by omega)
  refine Calls.mono (show Calls Try.prog 61 _ w _ from (by rw [Int.natCast_add] at hcon; exact hcon)) ?_
  rintro e w' ⟨rfl, q, rfl⟩
  have e1 : L.length - (i + 1 - i) = L.length - 1 := by omega
  have e2 : (L.take i ++ L.drop (i + 1) ++ List.replicate (i + 1 - i) (0 : Int)).length = L.length := by simp; omega
  have h2 := own_put (q := q) (k := L.length - 1) hv e2 (by omega)
  rw [e1]
  refine ⟨rfl, ?_, h2.2⟩
  have e3 : (L.take i ++ L.drop (i + 1) ++ List.replicate (i + 1 - i) (0 : Int)).take (L.length - 1) = L.take i ++ L.drop (i + 1) := by
    rw [List.take_append_of_le_length (by simp; omega), List.take_of_length_le (by simp; omega)]
  have h4 := h2.1
  rw [e3] at h4
  exact h4

set_option maxHeartbeats 1000000 in
theorem insert_endF (B : Nat) (v : Value) (L : List Int) (y : Int) (ad : Addr) (c : Nat) (w : World) (hB : B ≤ w.heap.size) (hv : OwnL inE w B 3 v L) (hl : L.length ≤ 2000) (hy : ∀ j u, (inE.c y)[j]? = some u → w.cell? (ad.add j) = some u) :
    Calls Try.prog 62 #[v, .int .i64 L.length, .slice (some ad) 1 c] w fun e w' => ∃ v', e = .returned v' ∧ OwnL inE w' B 3 v' (L ++ [y]) ∧ w.grownBy w' v.ownBlock ∧ ∀ x, v'.ownBlock = some x → v.ownBlock = some x ∨ w.heap.size ≤ x := by
  obtain ⟨vhi, hhi, -⟩ := sl_hi et60 hv (i := L.length) (Nat.le_refl _) ↑L.length rfl
  obtain ⟨a, c0, rfl, -⟩ := hv.slice
  go_enter Try.func62, Try.ntmps62
  go_wp2_with (at_builtin; refine wpl_appF et60 rfl (.tmp 23) (.tmp 24) rfl B _ L.length (inE.cs L) rfl hv ad 1 c (inE.c y) rfl rfl hy (inE.one y) (by unfold maxLen; omega) (by omega) hB ?_; intro v1 w1 hown1 hgrow1 hf1)
  go_ret
  refine ⟨_, rfl, ?_, hgrow1, hf1⟩
  unfold OwnL
  rw [List.length_append, inE.cs_append, inE.cs_one]
  exact hown1

theorem ins_any (B i vb : Nat) (v : Value) (L : List Int) (y : Int) (w : World) (hB : B ≤ w.heap.size) (hv : OwnL inE w B 3 v L) (hi : i ≤ L.length) (hl : L.length ≤ 2000) (hy : w.heap[vb]? = some (.cells (inE.c y).toArray 3 (0, 0))) (hne : v.ownBlock ≠ some vb) :
    Calls Try.prog 62 #[v, .int .i64 i, .slice (some ⟨vb, 0, none⟩) 1 1] w (InsO v L i y B w) := by
  by_cases he : i = L.length
  · subst he
    have h0 := insert_endF B v L y ⟨vb, 0, none⟩ 1 w hB hv hl (new_cells hy)
    refine h0.mono ?_
    rintro e w' ⟨v', rfl, h1, h2, h3⟩
    refine ⟨v', rfl, ?_, Keep.grown (Keep.refl _ _) h2 (fun z h _ => h), h3⟩
    unfold insAt
    rw [List.take_length, List.drop_length]; exact h1
  · obtain ⟨g, cap, rfl, -⟩ := hv.form (by intro e; subst e; simp at hi; exact he hi)
    by_cases hr : L.length + 1 ≤ cap
    · exact insert_place B g cap i vb L y w hv (by omega) hl hr hy (fun e => hne (by rw [e]; rfl))
    · exact insert_new B g cap i vb L y w hB hv (by omega) hl (by omega) hy

end Go.Proofs.Ytnjcchgbkemekaa
