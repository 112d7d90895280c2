/- MovingOne: the plain law and the walk. -/
import Derived.Test.YtnlalihapmlceaaU
set_option linter.unusedVariables false
set_option linter.unusedSimpArgs false
namespace Go.Proofs.Ytnlalihapmlceaa
open Go.RowKit Go.Own

theorem info4 : (Try.prog.info? 4).map (fun i => (i.zero, i.size, i.bytes)) = some (some (.bool false), 1, 1) := by kernel_rfl
theorem et38 : ET Try.prog 38 4 (.bool false) 1 1 := ⟨Try.underlying38, info4, rfl, by decide⟩

def rowB (M : List Bool) : Obj := .cells (M.map Value.bool).toArray 4 (0, 0)
def gb (M : List Bool) (i : Nat) : Bool := M.getD i false
theorem cell_rowB {w : World} {q i : Nat} {M : List Bool} (h : w.heap[q]? = some (rowB M)) (hi : i < M.length) : w.cell? ⟨q, i, none⟩ = some (.bool (gb M i)) := by
  rw [cell_block h]; simp [gb, hi]
theorem heap_setCell_rowB {w : World} {q i : Nat} {M : List Bool} {v : Bool} (h : w.heap[q]? = some (rowB M)) : (w.setCell ⟨q, i, none⟩ (.bool v)).heap[q]? = some (rowB (M.set i v)) := by
  unfold rowB at h; rw [heap_setCell_eq h]; simp [rowB, List.map_set]
theorem gb_set {M : List Bool} {i j : Nat} (h : gb (M.set i true) j = true) : j = i ∨ gb M j = true := by
  by_cases e : i = j
  · exact .inl e.symm
  · right; unfold gb at h ⊢; simpa [e] using h

theorem rows_pw (T S A : List Int) : ∀ n i, (rowsN T S A i n).Pairwise (fun x y => x.f < y.f) := by
  intro n
  induction n with
  | zero => intro i; exact List.Pairwise.nil
  | succ n ih =>
    intro i
    simp only [rowsN]
    split
    · refine List.Pairwise.cons (fun y hy => ?_) (ih (i + 1))
      obtain ⟨j, h1, h2, _, rfl⟩ := (mem_rowsN _ _).mp hy
      simp only [mk]; omega
    · exact ih (i + 1)

section
variable {T S A : List Int} {m : Int}
theorem one_facts (h : Good T S A m) {k : Nat} (hk : k < (rows T S A).length) : ∃ (i n : Nat) (s a : Int), (rows T S A)[k] = ⟨i, n, s, a⟩ ∧ i < 1024 ∧ n < 1024 ∧ i ≠ n ∧
    findM (rows T S A) i = some ⟨i, n, s, a⟩ ∧ findM (rows T S A) n = some ⟨i, n, s, a⟩ ∧ meetM (rows T S A) i = s ∧ meetM (rows T S A) n = 0 := by
  obtain ⟨i, hi, si, e⟩ := mem_rows.mp (List.getElem_mem hk)
  have ht := h.tt i hi si
  obtain ⟨n, hn⟩ := Int.eq_ofNat_of_zero_le (a := gi T i - 1) (by omega)
  have hn1 : n < 1024 := by omega
  have hm : mk T S A i ∈ rows T S A := mem_rows.mpr ⟨i, hi, si, rfl⟩
  have e2 : mk T S A i = ⟨i, n, gi S i, gi A i⟩ := by simp only [mk, hn]
  have hd := h.ds i i hi hi si si
  refine ⟨i, n, gi S i, gi A i, e.trans e2, hi, hn1, by omega, ?_, ?_, ?_, ?_⟩
  · rw [← e2]; exact find_uniq h hm (.inl rfl)
  · rw [← e2]; exact find_uniq h hm (.inr hn)
  · rw [meet_eq h, rmeet_nat hi]
  · rw [meet_eq h, rmeet_nat hn1]
    rcases h.st n hn1 with h0 | h0
    · exact h0
    · exact absurd hn (h.ds i n hi hn1 si (by omega)).1

theorem one_apart (h : Good T S A m) {j k : Nat} (hjk : j < k) (hk : k < (rows T S A).length) :
    ((rows T S A)[j]).f ≠ ((rows T S A)[k]).f ∧ ((rows T S A)[j]).f ≠ ((rows T S A)[k]).t ∧ ((rows T S A)[j]).t ≠ ((rows T S A)[k]).f ∧ ((rows T S A)[j]).t ≠ ((rows T S A)[k]).t := by
  have hp := List.pairwise_iff_getElem.mp (rows_pw T S A 1024 0) j k (Nat.lt_trans hjk hk) hk hjk
  change ((rows T S A)[j]).f < ((rows T S A)[k]).f at hp
  obtain ⟨i, hi, si, e⟩ := mem_rows.mp (List.getElem_mem hk)
  obtain ⟨i', hi', si', e'⟩ := mem_rows.mp (List.getElem_mem (Nat.lt_trans hjk hk))
  rw [e, e'] at hp ⊢
  simp only [mk] at hp ⊢
  have h1 := h.ds i i' hi hi' si si'
  have h2 := h.ds i' i hi' hi si' si
  have := h1.2 (by omega)
  omega
end

theorem s12 {w W : World} {b c d : Nat} {x0 x1 x2 x3 y0 y1 y2 y3 z0 z1 z2 z3 : Value} (K : Keep (fun _ => False) w W)
    (hx : w.cell? ⟨b, 0, none⟩ = some x0 ∧ w.cell? ⟨b, 1, none⟩ = some x1 ∧ w.cell? ⟨b, 2, none⟩ = some x2 ∧ w.cell? ⟨b, 3, none⟩ = some x3)
    (hy : w.cell? ⟨c, 0, none⟩ = some y0 ∧ w.cell? ⟨c, 1, none⟩ = some y1 ∧ w.cell? ⟨c, 2, none⟩ = some y2 ∧ w.cell? ⟨c, 3, none⟩ = some y3)
    (hz : w.cell? ⟨d, 0, none⟩ = some z0 ∧ w.cell? ⟨d, 1, none⟩ = some z1 ∧ w.cell? ⟨d, 2, none⟩ = some z2 ∧ w.cell? ⟨d, 3, none⟩ = some z3) :
    W.cell? ⟨b, 0, none⟩ = some x0 ∧ W.cell? ⟨b, 1, none⟩ = some x1 ∧ W.cell? ⟨b, 2, none⟩ = some x2 ∧ W.cell? ⟨b, 3, none⟩ = some x3 ∧
    W.cell? ⟨c, 0, none⟩ = some y0 ∧ W.cell? ⟨c, 1, none⟩ = some y1 ∧ W.cell? ⟨c, 2, none⟩ = some y2 ∧ W.cell? ⟨c, 3, none⟩ = some y3 ∧
    W.cell? ⟨d, 0, none⟩ = some z0 ∧ W.cell? ⟨d, 1, none⟩ = some z1 ∧ W.cell? ⟨d, 2, none⟩ = some z2 ∧ W.cell? ⟨d, 3, none⟩ = some z3 := by
  have f : ∀ {b i : Nat} {x : Value}, w.cell? ⟨b, i, none⟩ = some x → W.cell? ⟨b, i, none⟩ = some x := fun h => (K.cell (block_lt_cell h) id).trans h
  exact ⟨f hx.1, f hx.2.1, f hx.2.2.1, f hx.2.2.2, f hy.1, f hy.2.1, f hy.2.2.1, f hy.2.2.2, f hz.1, f hz.2.1, f hz.2.2.1, f hz.2.2.2⟩

set_option maxRecDepth 100000 in
set_option maxHeartbeats 4000000 in
theorem one_walk (la : Option Addr) (l c : Nat) (w : World) (hr : RowsAt w la l [.int .i64, .int .i64, .int .i64]) :
    Calls Try.prog 4 #[.slice la l c] w fun e w' => e = .returned (.bool true) ∧ Below w.heap.size w w' := by
  obtain ⟨A, rfl, hA⟩ := acts3_of_rows hr
  have H1 := Lib.hid hA
  clear hA hr
  go_enter Try.func4, Try.ntmps4
  go_wp2_with (first | (go_at_call 9; go_loud (refine (made_yes 9 la A c _ (by omega) (by omega) H1.out).mono ?_; rintro e w1 ⟨p, v, q, t, s, a, T, S, G, rfl, hT, hk1⟩; have HT := Lib.hid hT; have K1 := Lib.hid hk1; clear hT hk1)) | (go_at_call 10; go_loud (refine (awake_any _).mono ?_; rintro e w2 ⟨rfl, hk2⟩; have HT2 := Lib.hid (HT.out.keep0 hk2); have K2 := Lib.hid (K1.out.trans hk2); clear hk2)) | (go_at_call 14; go_loud (refine (all_any _ p v 9 _ _ HT2.out.rm).mono ?_; rintro e w3 ⟨v5, rfl, hO, hk3⟩; have HT3 := Lib.hid (HT2.out.keep0 hk3); have K3 := Lib.hid (K2.out.trans hk3); have HO := Lib.hid hO; obtain ⟨a5, c5, rfl, hag⟩ := hO.slice; have HAG := Lib.hid hag; clear hk3 hO hag)) | (at_make; go_loud (refine wpl_make et38 rfl _ _ rfl w3.heap.size 1024 1024 1024 rfl rfl rfl rfl (by decide) (by decide) rfl (Nat.le_refl _) ?_; intro w4 hown hgrow; have HW := Lib.hid hown; have HG := Lib.hid hgrow; clear hown hgrow)))
  have KM : Hid (Keep (fun _ => False) w3 w4) := Keep.grown (Keep.refl _ _) HG.out (fun x h1 h2 => by simp at h1)
  have HT4 := Lib.hid (HT3.out.keep0 KM.out)
  have HO4 := Lib.hid (HO.out.keep KM.out (fun _ _ => id))
  have K4 := Lib.hid (K3.out.trans KM.out)
  obtain ⟨st, hst⟩ : ∃ x, w3.heap.size = x := ⟨_, rfl⟩
  have HM : Hid (w4.heap[st]? = some (rowB (List.replicate 1024 false))) := by
    unfold Hid
    rw [← hst, (ownsRow_full HW.out).1]; unfold rowB; rw [List.map_replicate]
  have hsB : Hid (w.heap.size ≤ st ∧ st ≠ p ∧ v.ownBlock ≠ some st ∧ ∀ x, (Value.slice a5 (rows T S G).length c5).ownBlock = some x → x ≠ st) := by
    have h3 := K3.out.size
    have hp := block_lt HT3.out.rm.hp
    refine ⟨by omega, by omega, fun e => ?_, fun x hx => ?_⟩
    · have := (HT3.out.rm.hv.lt _ e).2; omega
    · have := (HO.out.lt x hx).2; omega
  rw [hst]
  clear HT HT2 HT3 K1 K2 K3 HO HW HG KM hst
  have hlen : Hid ((rows T S G).length ≤ 9) := by
    have := HT4.out.ln
    unfold Hid rows; rw [rowsN_length]; omega
  have hl9 := hlen.out
  go_loopw [8] (fun i wr => ∃ k : Nat, k ≤ (rows T S G).length ∧ i = .int .i64 k ∧ ∃ M : List Bool, M.length = 1024 ∧ wr.heap[st]? = some (rowB M) ∧
    (∀ j, gb M j = true → ∃ u, u < k ∧ ∃ hu : u < (rows T S G).length, (rows T S G)[u].f = j ∨ (rows T S G)[u].t = j) ∧ Keep (fun x => x = st) w4 wr) (fun i _ => (rows T S G).length - (intOf i).toNat)
  case atStart => exact ⟨0, by omega, rfl, _, by simp, HM.out, fun j h => by unfold gb at h; rw [List.getD_eq_getElem?_getD, List.getElem?_replicate] at h; split at h <;> simp at h, Keep.refl _ _⟩
  case round =>
    obtain ⟨k, hk, rfl, M, hMl, hMb, hM, hkeep⟩ := hrel
    have HMb := Lib.hid hMb
    have HM2 := Lib.hid hM
    have HK := Lib.hid hkeep
    clear hMb hM hkeep
    by_cases hlt : k < (rows T S G).length
    · obtain ⟨i, n, s1, a1, hy, hi, hn, hin, f1, f2, m1, m2⟩ := one_facts HT4.out.gd hlt
      have HY := Lib.hid hy
      have F1 := Lib.hid f1
      have F2 := Lib.hid f2
      have M1 := Lib.hid m1
      have M2 := Lib.hid m2
      clear hy f1 f2 m1 m2
      obtain ⟨g5, hg5⟩ := HAG.out (by intro e; rw [e] at hlt; simp at hlt)
      subst hg5
      have hOr := Lib.hid (HO4.out.keep HK.out hsB.out.2.2.2)
      obtain ⟨c0, c1, c2, c3⟩ := mv_cells hOr.out hlt
      rw [HY.out] at c0 c1 c2 c3
      have b1 : gb M i = false := by
        cases hb : gb M i with
        | false => rfl
        | true =>
          obtain ⟨u, hu, hul, h⟩ := HM2.out i hb
          have := one_apart HT4.out.gd hu hlt
          rw [HY.out] at this
          simp only at this
          omega
      have b2 : gb M n = false := by
        cases hb : gb M n with
        | false => rfl
        | true =>
          obtain ⟨u, hu, hul, h⟩ := HM2.out n hb
          have := one_apart HT4.out.gd hu hlt
          rw [HY.out] at this
          simp only at this
          omega
      have hstl := block_lt HMb.out
      have hHX := heap_alloc_new wr (.cells #[.int .i64 (i : Int), .int .i64 (n : Int), .int .i64 s1, .int .i64 a1] 31)
      have KX : Hid (Keep (fun x => x = st) w4 (wr.alloc (.cells #[.int .i64 (i : Int), .int .i64 (n : Int), .int .i64 s1, .int .i64 a1] 31))) := HK.out.alloc _
      have HB1 : Hid ((wr.alloc (.cells #[.int .i64 (i : Int), .int .i64 (n : Int), .int .i64 s1, .int .i64 a1] 31)).heap[st]? = some (rowB M)) := by unfold Hid; rw [Below.heap_alloc _ _ _ hstl]; exact HMb.out
      obtain ⟨x0, x1, x2, x3⟩ := cells4 hHX
      have e1 := cell_rowB HB1.out (i := i) (by omega)
      have e2 := cell_rowB HB1.out (i := n) (by omega)
      rw [b1] at e1
      rw [b2] at e2
      have z1 : (wr.alloc (.cells #[.int .i64 (i : Int), .int .i64 (n : Int), .int .i64 s1, .int .i64 a1] 31)).frozen? ⟨st, i, none⟩ = false := frozen_block HB1.out
      have z2 : (wr.alloc (.cells #[.int .i64 (i : Int), .int .i64 (n : Int), .int .i64 s1, .int .i64 a1] 31)).frozen? ⟨st, n, none⟩ = false := frozen_block HB1.out
      have e1w := cell_rowB HMb.out (i := i) (by omega)
      have e2w := cell_rowB HMb.out (i := n) (by omega)
      rw [b1] at e1w
      rw [b2] at e2w
      have z1w : wr.frozen? ⟨st, i, none⟩ = false := frozen_block HMb.out
      have z2w : wr.frozen? ⟨st, n, none⟩ = false := frozen_block HMb.out
      have hin' : ((i : Int) == (n : Int)) = false := by simp; omega
      have hne1 : wr.heap.size ≠ st := by omega
      have HHX := Lib.hid hHX
      clear hHX
      go_wp2_with fail
      have HK5 : Hid (Keep (fun x => x = st) w4 (((wr.setCell ⟨st, i, none⟩ (.bool true)).setCell ⟨st, n, none⟩ (.bool true)).alloc (.cells #[.int .i64 (i : Int), .int .i64 (n : Int), .int .i64 s1, .int .i64 a1] 31))) := ((HK.out.setCell (fun _ => rfl) _).setCell (fun _ => rfl) _).alloc _
      have HM5 : Hid ((((wr.setCell ⟨st, i, none⟩ (.bool true)).setCell ⟨st, n, none⟩ (.bool true)).alloc (.cells #[.int .i64 (i : Int), .int .i64 (n : Int), .int .i64 s1, .int .i64 a1] 31)).heap[st]? = some (rowB ((M.set i true).set n true))) := by
        unfold Hid
        rw [Below.heap_alloc _ _ _ (by simp; exact hstl)]
        exact heap_setCell_rowB (heap_setCell_rowB HMb.out)
      have HX5 : Hid ((((wr.setCell ⟨st, i, none⟩ (.bool true)).setCell ⟨st, n, none⟩ (.bool true)).alloc (.cells #[.int .i64 (i : Int), .int .i64 (n : Int), .int .i64 s1, .int .i64 a1] 31)).heap[wr.heap.size]? = some (.cells #[.int .i64 (i : Int), .int .i64 (n : Int), .int .i64 s1, .int .i64 a1] 31 (0, 0))) := by
        have := heap_alloc_new ((wr.setCell ⟨st, i, none⟩ (.bool true)).setCell ⟨st, n, none⟩ (.bool true)) (.cells #[.int .i64 (i : Int), .int .i64 (n : Int), .int .i64 s1, .int .i64 a1] 31)
        unfold Hid
        simpa using this
      clear x0 x1 x2 x3 e1 e2 z1 z2 e1w e2w z1w z2w HB1 KX HHX
      obtain ⟨xb, hxb⟩ : ∃ x, wr.heap.size = x := ⟨_, rfl⟩
      obtain ⟨w5, hw5⟩ : ∃ x, ((wr.setCell ⟨st, i, none⟩ (.bool true)).setCell ⟨st, n, none⟩ (.bool true)).alloc (.cells #[.int .i64 (i : Int), .int .i64 (n : Int), .int .i64 s1, .int .i64 a1] 31) = x := ⟨_, rfl⟩
      rw [hw5] at HK5 HM5 HX5 ⊢
      rw [hxb] at HX5 hne1 ⊢
      clear hw5 hxb
      have HR5 := Lib.hid (HT4.out.rm.keep HK5.out (Ne.symm hsB.out.2.1) (fun x hx e => hsB.out.2.2.1 (e ▸ hx)))
      refine (find_any _ p v 9 _ i _ HR5.out).mono ?_
      rw [F1.out]
      unfold mvV
      rintro e w6 ⟨rfl, hk6⟩
      simp only [Option.getD_some, Option.isSome_some]
      have K7 : Hid (Keep (fun _ => False) w5 (w6.alloc (.cells #[.int .i64 (i : Int), .int .i64 (n : Int), .int .i64 s1, .int .i64 a1] 31))) := hk6.alloc _
      have HF7 : Hid ((w6.alloc (.cells #[.int .i64 (i : Int), .int .i64 (n : Int), .int .i64 s1, .int .i64 a1] 31)).heap[w6.heap.size]? = some (.cells #[.int .i64 (i : Int), .int .i64 (n : Int), .int .i64 s1, .int .i64 a1] 31 (0, 0))) := heap_alloc_new w6 _
      obtain ⟨x0, x1, x2, x3⟩ := cells4k K7.out HX5.out id
      clear hk6
      go_wp2_with fail
      refine (find_any _ p v 9 _ n _ (HR5.out.keep K7.out id (fun _ _ => id))).mono ?_
      rw [F2.out]
      unfold mvV
      rintro e w8 ⟨rfl, hk8⟩
      simp only [Option.getD_some, Option.isSome_some]
      have K9 : Hid (Keep (fun _ => False) (w6.alloc (.cells #[.int .i64 (i : Int), .int .i64 (n : Int), .int .i64 s1, .int .i64 a1] 31)) (w8.alloc (.cells #[.int .i64 (i : Int), .int .i64 (n : Int), .int .i64 s1, .int .i64 a1] 31))) := hk8.alloc _
      have HF9 : Hid ((w8.alloc (.cells #[.int .i64 (i : Int), .int .i64 (n : Int), .int .i64 s1, .int .i64 a1] 31)).heap[w8.heap.size]? = some (.cells #[.int .i64 (i : Int), .int .i64 (n : Int), .int .i64 s1, .int .i64 a1] 31 (0, 0))) := heap_alloc_new w8 _
      have X9 := Lib.hid (cells4k (K7.out.trans K9.out) HX5.out id)
      have Y9 := Lib.hid (cells4k K9.out HF7.out id)
      have Z9 := Lib.hid (cells4 HF9.out)
      have HR9 := Lib.hid (HR5.out.keep (K7.out.trans K9.out) id (fun _ _ => id))
      have K9' := Lib.hid (K7.out.trans K9.out)
      clear hk8 x0 x1 x2 x3 K9 HF9 HF7 K7 HR5 HX5
      go_wp2_with fail
      obtain ⟨fb, hfb⟩ : ∃ x, w6.heap.size = x := ⟨_, rfl⟩
      obtain ⟨gb', hgb⟩ : ∃ x, w8.heap.size = x := ⟨_, rfl⟩
      obtain ⟨w9, hw9⟩ : ∃ x, w8.alloc (.cells #[.int .i64 (i : Int), .int .i64 (n : Int), .int .i64 s1, .int .i64 a1] 31) = x := ⟨_, rfl⟩
      rw [hw9] at X9 Y9 Z9 HR9 K9' ⊢
      rw [hfb] at Y9 ⊢
      rw [hgb] at Z9 ⊢
      clear hw9 hfb hgb
      go_region_held3 (fun w' => w'.cell? ⟨xb, 0, none⟩ = some (.int .i64 (i : Int)) ∧ w'.cell? ⟨xb, 1, none⟩ = some (.int .i64 (n : Int)) ∧ w'.cell? ⟨xb, 2, none⟩ = some (.int .i64 s1) ∧ w'.cell? ⟨xb, 3, none⟩ = some (.int .i64 a1) ∧
          w'.cell? ⟨fb, 0, none⟩ = some (.int .i64 (i : Int)) ∧ w'.cell? ⟨fb, 1, none⟩ = some (.int .i64 (n : Int)) ∧ w'.cell? ⟨fb, 2, none⟩ = some (.int .i64 s1) ∧ w'.cell? ⟨fb, 3, none⟩ = some (.int .i64 a1) ∧
          w'.cell? ⟨gb', 0, none⟩ = some (.int .i64 (i : Int)) ∧ w'.cell? ⟨gb', 1, none⟩ = some (.int .i64 (n : Int)) ∧ w'.cell? ⟨gb', 2, none⟩ = some (.int .i64 s1) ∧ w'.cell? ⟨gb', 3, none⟩ = some (.int .i64 a1))
        ((refine s12 ?_ X9.out Y9.out Z9.out; first | ((repeat (first | exact Keep.refl _ _ | exact Keep.refl _ _ | refine Keep.drew ?_ | refine Keep.drewN ?_ _ | refine Keep.alloc ?_ _ | refine Keep.setNew ?_ (by omega) _)); done) | ((repeat (first | exact HKA.out | exact Keep.refl _ _ | refine Keep.drew ?_ | refine Keep.drewN ?_ _ | refine Keep.alloc ?_ _ | refine Keep.setNew ?_ (by omega) _)); done) | ((repeat (first | exact HKB.out | exact Keep.refl _ _ | refine Keep.drew ?_ | refine Keep.drewN ?_ _ | refine Keep.alloc ?_ _ | refine Keep.setNew ?_ (by omega) _)); done)))
        (first | (go_at_call 15; have HKC := HKA; clear HKC; refine (meet_any _ p v 9 _ (n : Int) _ (HR9.out.keep (S := fun _ => False) (by (repeat (first | exact HKA.out | exact Keep.refl _ _ | refine Keep.drew ?_ | refine Keep.drewN ?_ _ | refine Keep.alloc ?_ _ | refine Keep.setNew ?_ (by omega) _)); done) id (fun _ _ => id))).mono ?_; rw [M2.out]; rintro e wb ⟨rfl, hkb⟩; have HKB : Hid (Keep (fun _ => False) w9 wb) := Keep.trans (by (repeat (first | exact HKA.out | exact Keep.refl _ _ | refine Keep.drew ?_ | refine Keep.drewN ?_ _ | refine Keep.alloc ?_ _ | refine Keep.setNew ?_ (by omega) _)); done) hkb; clear hkb) | (go_at_call 15; refine (meet_any _ p v 9 _ (i : Int) _ (HR9.out.keep (S := fun _ => False) (by (repeat (first | exact Keep.refl _ _ | exact Keep.refl _ _ | refine Keep.drew ?_ | refine Keep.drewN ?_ _ | refine Keep.alloc ?_ _ | refine Keep.setNew ?_ (by omega) _)); done) id (fun _ _ => id))).mono ?_; rw [M1.out]; rintro e wa ⟨rfl, hka⟩; have HKA : Hid (Keep (fun _ => False) w9 wa) := Keep.trans (by (repeat (first | exact Keep.refl _ _ | exact Keep.refl _ _ | refine Keep.drew ?_ | refine Keep.drewN ?_ _ | refine Keep.alloc ?_ _ | refine Keep.setNew ?_ (by omega) _)); done) hka; clear hka))
      go_wp2
      go_roundw
      case rel =>
        have K5B := Lib.hid (K9'.out.trans HKB.out)
        refine ⟨k + 1, by omega, by go_num, (M.set i true).set n true, by simpa using hMl, (K5B.out.block st (block_lt HM5.out) id).trans HM5.out, fun j hj => ?_, HK5.out.trans (K5B.out.mono (fun _ _ h => h.elim))⟩
        rcases gb_set hj with rfl | hj
        · exact ⟨k, by omega, hlt, .inr (by rw [HY.out])⟩
        · rcases gb_set hj with rfl | hj
          · exact ⟨k, by omega, hlt, .inl (by rw [HY.out])⟩
          · obtain ⟨u, h1, h2, h3⟩ := HM2.out j hj
            exact ⟨u, by omega, h2, h3⟩
      case measure => simp [intOf]; omega
    · have hle : decide (((rows T S G).length : Int) ≤ 9) = true := by simp; omega
      go_wp2
      go_ret
      exact ⟨rfl, (Keep.fresh (B := w.heap.size) ((K4.out.mono (T := fun x => w.heap.size ≤ x) (fun _ _ h => h.elim)).trans (HK.out.mono (T := fun x => w.heap.size ≤ x) (fun x _ e => by rw [e]; exact hsB.out.1))) (fun _ h => h) (Nat.le_refl _)).below⟩

end Go.Proofs.Ytnlalihapmlceaa
