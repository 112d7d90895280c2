/- Kinds: pieces. -/
import Derived.Test.YtjffdimlbppgcaaGreatKD
set_option linter.unusedVariables false
set_option linter.unusedSimpArgs false
namespace Go.Proofs.YtjffdimlbppgcaaGreat
open Go.RowKit Go.Own

/- Part KE: Kinds: others, alone. -/
theorem others_any (x : Int) (hx : x = 0 ∨ x = 1 ∨ x = 2) (w : World) : Calls Tryz.prog 68 #[.int .i64 x] w fun e w' => e = .returned (.agg #[.int .i64 (oth2 x).1, .int .i64 (oth2 x).2]) ∧ Keep (fun _ => False) w w' := by
  rcases hx with rfl | rfl | rfl
  · go_enter Tryz.func68, Tryz.ntmps68
    go_wp2
    obtain ⟨q1, q2⟩ := cell2b (heap_alloc_new w (.cells #[.int .i64 2, .int .i64 1] 108))
    exact bodyPost_ret (v := .agg #[.int .i64 2, .int .i64 1]) (by simp [results, Tryz.results68, go_sem, q1, q2]) rfl ⟨rfl, (Keep.refl _ _).alloc _⟩
  · go_enter Tryz.func68, Tryz.ntmps68
    go_wp2
    obtain ⟨q1, q2⟩ := cell2b (heap_alloc_new w (.cells #[.int .i64 2, .int .i64 0] 108))
    exact bodyPost_ret (v := .agg #[.int .i64 2, .int .i64 0]) (by simp [results, Tryz.results68, go_sem, q1, q2]) rfl ⟨rfl, (Keep.refl _ _).alloc _⟩
  · go_enter Tryz.func68, Tryz.ntmps68
    go_wp2
    obtain ⟨q1, q2⟩ := cell2b (heap_alloc_new w (.cells #[.int .i64 0, .int .i64 1] 108))
    exact bodyPost_ret (v := .agg #[.int .i64 0, .int .i64 1]) (by simp [results, Tryz.results68, go_sem, q1, q2]) rfl ⟨rfl, (Keep.refl _ _).alloc _⟩
theorem alB_true {M : Nat → Int} {a k j : Nat} (hj : j < 2 ^ (k - 3)) (h : M (a / 8 + j) = 3) : alB M a k = true := by
  unfold alB
  rw [List.any_eq_true]
  exact ⟨j, List.mem_range.mpr hj, by simp [h]⟩
theorem alB_false {M : Nat → Int} {a k : Nat} (h : ∀ j, j < 2 ^ (k - 3) → M (a / 8 + j) ≠ 3) : alB M a k = false := by
  unfold alB
  rw [List.any_eq_false]
  intro j hj
  simpa using h j (List.mem_range.mp hj)

set_option maxHeartbeats 1000000 in
theorem alone_any {w : World} {B k b kr n : Nat} {F : Nat → Bool} {M : Nat → Int} {N : Nat → Prop} (a o : Nat) (h : KO w B k b kr n F M N) (ho3 : 3 < o) (ho8 : o ≤ 8) (ha : a % 8 = 0) (he : a + 2 ^ o ≤ n) :
    Calls Tryz.prog 86 #[.pointer (some ⟨k, 0, none⟩), .agg #[.int .i64 (a : Int), .int .i64 (o : Int)]] w fun e w' => e = .returned (.bool (alB M a o)) ∧ Keep (fun _ => False) w w' := by
  have hn1 := h.bf.n1024
  have hpo := p2 o
  obtain ⟨P, hP, e1, e2, hpb, -⟩ := bits_k o a ho8 (by omega)
  have h8 : P = 8 * 2 ^ (o - 3) := by rw [hP]; exact p8 (by omega)
  obtain ⟨Q, hQ⟩ : ∃ Q, 2 ^ (o - 3) = Q := ⟨_, rfl⟩
  have HT : Hid (∀ j, j < Q → M (a / 8 + j) = 3 → alB M a o = true) := fun j hj h => alB_true (by rw [hQ]; exact hj) h
  have HF : Hid ((∀ j, j < Q → M (a / 8 + j) ≠ 3) → alB M a o = false) := fun h => alB_false (by rw [hQ]; exact h)
  rw [hQ] at h8
  have HO := Lib.hid h
  rw [← hP] at he
  have hend : IntKind.i64.wrap ((a : Int) + (P : Int)) = ((a + P : Nat) : Int) := wsum a P (by omega) (by omega)
  obtain ⟨E, hE⟩ : ∃ E, a + P = E := ⟨_, rfl⟩
  rw [hE] at hend he
  have HBX : Hid ((w.alloc (.cells #[.int .i64 (a : Int), .int .i64 (o : Int)] 96)).heap[w.heap.size]? = some (.cells #[.int .i64 (a : Int), .int .i64 (o : Int)] 96 (0, 0))) := heap_alloc_new w _
  have HK1 : Hid (Keep (fun _ => False) w (w.alloc (.cells #[.int .i64 (a : Int), .int .i64 (o : Int)] 96))) := (Keep.refl _ _).alloc _
  obtain ⟨c0, c1⟩ := cell2b HBX.out
  have HP := Lib.hid hP
  clear h hP hQ
  go_enter Tryz.func86, Tryz.ntmps86
  go_wp2
  obtain ⟨b3, hb3⟩ : ∃ b3, w.heap.size = b3 := ⟨_, rfl⟩
  rw [hb3] at HBX c0 c1 ⊢
  generalize w.alloc (.cells #[.int .i64 (a : Int), .int .i64 (o : Int)] 96) = w1 at HBX HK1 c0 c1 ⊢
  clear hb3 c0 c1
  go_loopw [5] (fun i wr => ∃ (t j : Nat), i = .int .i64 (t : Int) ∧ t = a + 8 * j ∧ j ≤ Q ∧ (∀ i, i < j → M (a / 8 + i) ≠ 3) ∧ Keep (fun _ => False) w1 wr) (fun i _ => 2000 - (intOf i).toNat)
  case atStart => exact ⟨a, 0, rfl, by omega, by omega, fun i hi => by omega, Keep.refl _ _⟩
  case round =>
    obtain ⟨t, j, rfl, ht, hj, hno, hk⟩ := hrel
    have HK := Lib.hid hk
    have HNO := Lib.hid hno
    have HT2 := Lib.hid ht
    have HB := Lib.hid ((hk.block b3 (block_lt HBX.out) id).trans HBX.out)
    have HW := Lib.hid (HO.out.keep0 (HK1.out.trans hk))
    obtain ⟨c0, c1⟩ := cell2b HB.out
    clear hk hno
    by_cases hlt : t < E
    · have t1 : decide ((t : Int) < (E : Int)) = true := by simp; omega
      have t2 : decide (t < E) = true := by simp; omega
      have hjQ : j < Q := by omega
      have htn : t < n := by omega
      have hdiv : t / 8 = a / 8 + j := by omega
      have HKI : Hid (∀ W, Keep (fun _ => False) wr W → Calls Tryz.prog 62 #[.pointer (some ⟨k, 0, none⟩), .int .i64 (t : Int)] W fun e w' => e = .returned (.int .i64 (M (a / 8 + j))) ∧ w' = W) := fun W K => by
        have h := kind_in (HW.out.keep0 K) htn
        rw [hdiv] at h; exact h
      clear ht hdiv
      by_cases h3 : M (a / 8 + j) = 3
      · have t3 : (M (a / 8 + j) == 3) = true := by simp [h3]
        have HR := Lib.hid (HT.out j hjQ h3)
        clear h3
        go_wp2
        go_quiet (fail)
        go_wp2_with (go_at_call 62; refine (HKI.out _ (by (repeat (first | exact Keep.refl _ _ | exact Keep.refl _ _ | refine Keep.drew ?_ | refine Keep.drewN ?_ _ | refine Keep.alloc ?_ _ | refine Keep.setNew ?_ (by omega) _)); done)).mono ?_; rintro e w2 ⟨rfl, rfl⟩)
        go_ret
        exact ⟨by rw [HR.out]; rfl, HK1.out.trans (by (repeat (first | exact HK.out | exact Keep.refl _ _ | refine Keep.drew ?_ | refine Keep.drewN ?_ _ | refine Keep.alloc ?_ _ | refine Keep.setNew ?_ (by omega) _)); done)⟩
      · have t3 : (M (a / 8 + j) == 3) = false := by simp [h3]
        have H3 := Lib.hid h3
        clear h3
        go_wp2
        go_quiet (fail)
        go_wp2_with (go_at_call 62; refine (HKI.out _ (by (repeat (first | exact Keep.refl _ _ | exact Keep.refl _ _ | refine Keep.drew ?_ | refine Keep.drewN ?_ _ | refine Keep.alloc ?_ _ | refine Keep.setNew ?_ (by omega) _)); done)).mono ?_; rintro e w2 ⟨rfl, rfl⟩)
        go_roundw
        case rel => exact ⟨t + 8, j + 1, by go_num, by have := HT2.out; omega, by omega, fun i hi => by
          by_cases e : i = j
          · subst e; exact H3.out
          · exact HNO.out i (by omega), (by (repeat (first | exact HK.out | exact Keep.refl _ _ | refine Keep.drew ?_ | refine Keep.drewN ?_ _ | refine Keep.alloc ?_ _ | refine Keep.setNew ?_ (by omega) _)); done)⟩
        case measure => simp [intOf]; omega
    · have t1 : decide ((t : Int) < (E : Int)) = false := by simp; omega
      have t2 : decide (t < E) = false := by simp; omega
      have HR := Lib.hid (HF.out fun i hi => HNO.out i (by omega))
      go_wp2
      go_quiet (fail)
      go_wp2
      go_ret
      exact ⟨by rw [HR.out]; rfl, HK1.out.trans (by (repeat (first | exact HK.out | exact Keep.refl _ _ | refine Keep.drew ?_ | refine Keep.drewN ?_ _ | refine Keep.alloc ?_ _ | refine Keep.setNew ?_ (by omega) _)); done)⟩

/- Part KF: Kinds: best. -/
theorem set2 {w : World} {b e : Nat} {x y u v : Value} (h : w.heap[b]? = some (.cells #[x, y] e (0, 0))) : ((w.setCell ⟨b, 0, none⟩ u).setCell ⟨b, 1, none⟩ v).heap[b]? = some (.cells #[u, v] e (0, 0)) := by
  have h2 := heap_setCell_eq (i := 0) (u := u) h
  have h3 := heap_setCell_eq (i := 1) (u := v) h2
  simpa using h3
theorem set2_ne {w : World} {b c : Nat} {u v : Value} (h : c ≠ b) : ((w.setCell ⟨b, 0, none⟩ u).setCell ⟨b, 1, none⟩ v).heap[c]? = w.heap[c]? := by
  rw [heap_setCell_ne (by simpa using h), heap_setCell_ne (by simpa using h)]
/-- A piece that may be looked at. -/
def okP (n : Nat) (y : Bk) : Prop := ∃ a o : Nat, y = ⟨(a : Int), (o : Int)⟩ ∧ a < n ∧ o ≤ 8
def fb (z : Option Bk) : Bk := z.getD ⟨0, 0⟩
theorem bst_take {M : Nat → Int} {x : Int} {g : Bool} {L : List Bk} {j : Nat} (hj : j < L.length) : (L.take (j + 1)).foldl (bst1 M x g) none = bst1 M x g ((L.take j).foldl (bst1 M x g) none) L[j] := by
  rw [List.take_succ_eq_append_getElem hj, List.foldl_append]; rfl
theorem bst1_no {M : Nat → Int} {x : Int} {g : Bool} {z : Option Bk} {a o : Nat} (h : ¬ M (a / 8) = x) : bst1 M x g z ⟨(a : Int), (o : Int)⟩ = z := by
  unfold bst1; rw [if_neg (by simpa using h)]
theorem bst1_none {M : Nat → Int} {x : Int} {g : Bool} {a o : Nat} (h : M (a / 8) = x) : bst1 M x g none ⟨(a : Int), (o : Int)⟩ = some ⟨(a : Int), (o : Int)⟩ := by
  unfold bst1; rw [if_pos (by simpa using h)]
theorem bst1_some {M : Nat → Int} {x : Int} {g : Bool} {u : Bk} {a o : Nat} (h : M (a / 8) = x) : bst1 M x g (some u) ⟨(a : Int), (o : Int)⟩ = if (g = true ∧ u.o < (o : Int)) ∨ (g = false ∧ (o : Int) < u.o) then some ⟨(a : Int), (o : Int)⟩ else some u := by
  unfold bst1; rw [if_pos (by simpa using h)]
/-- What best answers. -/
def BestC (M : Nat → Int) (x : Int) (g : Bool) (L : List Bk) (w : World) (e : Ending) (w' : World) : Prop :=
  e = .returned (.tuple #[.agg #[.int .i64 (fb (bst M x g L)).f, .int .i64 (fb (bst M x g L)).o], .bool (bst M x g L).isSome]) ∧ Keep (fun _ => False) w w'
/-- The state behind j pieces. -/
def BeJ (M : Nat → Int) (x : Int) (g : Bool) (L : List Bk) (w wr : World) (n8 n10 j : Nat) (fd : Bool) : Prop :=
  ∃ z : Option Bk, z = (L.take j).foldl (bst1 M x g) none ∧ fd = z.isSome ∧ wr.heap[n10]? = some (.cells #[.int .i64 (fb z).f, .int .i64 (fb z).o] 96 (0, 0)) ∧ wr.heap[n8]? = some (.cells #[.int .i64 0, .int .i64 0] 96 (0, 0)) ∧ Keep (fun _ => False) w wr

set_option maxRecDepth 100000 in
set_option maxHeartbeats 4000000 in
theorem best_any {w : World} {B C k b kr n : Nat} {F : Nat → Bool} {M : Nat → Int} {N : Nat → Prop} (v : Value) (L : List Bk) (x : Int) (g : Bool) (h : KO w B k b kr n F M N) (hv : OwnL bkE w C 96 v L) (hL : ∀ y, y ∈ L → okP n y) (hl : L.length ≤ 1000000) :
    Calls Tryz.prog 67 #[.pointer (some ⟨k, 0, none⟩), v, .int .i64 x, .bool g] w (BestC M x g L w) := by
  obtain ⟨av, cv, rfl, hag⟩ := hv.slice
  have HV := Lib.hid hv
  have HO := Lib.hid h
  have HL := Lib.hid hL
  have HAG := Lib.hid hag
  have h8 := heap_alloc_new w (.cells #[.int .i64 0, .int .i64 0] 96)
  have h10 := heap_alloc_new (w.alloc (.cells #[.int .i64 0, .int .i64 0] 96)) (.cells #[.int .i64 0, .int .i64 0] 96)
  have h8' : ((w.alloc (.cells #[.int .i64 0, .int .i64 0] 96)).alloc (.cells #[.int .i64 0, .int .i64 0] 96)).heap[w.heap.size]? = some (.cells #[.int .i64 0, .int .i64 0] 96 (0, 0)) := by
    rw [heap_alloc_at, if_neg (by simp)]; exact h8
  have HI0 : Hid (BeJ M x g L w ((w.alloc (.cells #[.int .i64 0, .int .i64 0] 96)).alloc (.cells #[.int .i64 0, .int .i64 0] 96)) w.heap.size (w.heap.size + 1) 0 false) := ⟨none, rfl, rfl, by rw [World.size_alloc] at h10; exact h10, h8', ((Keep.refl _ _).alloc _).alloc _⟩
  clear hv h hL hag h8 h10 h8'
  go_enter Tryz.func67, Tryz.ntmps67
  go_wp2
  generalize (w.alloc (.cells #[.int .i64 0, .int .i64 0] 96)).alloc (.cells #[.int .i64 0, .int .i64 0] 96) = w1 at HI0 ⊢
  obtain ⟨n8, hn8⟩ : ∃ n8, w.heap.size = n8 := ⟨_, rfl⟩
  rw [hn8] at HI0
  try rw [hn8]
  obtain ⟨n10, hn10⟩ : ∃ n10, n8 + 1 = n10 := ⟨_, rfl⟩
  rw [hn10] at HI0
  try rw [hn10]
  have HN := Lib.hid (And.intro hn8 hn10)
  clear hn8 hn10
  go_loopw [11, 19] (fun fd i wr => ∃ (j : Nat) (fb' : Bool), j ≤ L.length ∧ i = .int .i64 (j : Int) ∧ fd = .bool fb' ∧ BeJ M x g L w wr n8 n10 j fb') (fun _ i _ => L.length - (intOf i).toNat)
  case atStart => exact ⟨0, false, by omega, rfl, rfl, HI0.out⟩
  case round =>
    obtain ⟨j, fd, hj, rfl, rfl, z, hz, rfl, hb10, hb8, hk⟩ := hrel
    have HZ := Lib.hid hz
    have H10 := Lib.hid hb10
    have H8 := Lib.hid hb8
    have HK := Lib.hid hk
    clear hz hb10 hb8 hk HI0
    by_cases hjl : j < L.length
    · obtain ⟨g0, rfl⟩ := HAG.out (by intro e; rw [e] at hjl; simp at hjl)
      obtain ⟨c0, c1⟩ := bk_cells (HV.out.keep HK.out (fun _ _ => id)) hjl
      obtain ⟨a, o, hy, han, ho8⟩ := HL.out _ (List.getElem_mem hjl)
      have hstep := bst_take (M := M) (x := x) (g := g) hjl
      rw [← HZ.out, hy] at hstep
      rw [hy] at c0 c1
      simp only at c0 c1
      have HKI : Hid (∀ W, Keep (fun _ => False) wr W → Calls Tryz.prog 62 #[.pointer (some ⟨k, 0, none⟩), .int .i64 (a : Int)] W fun e w' => e = .returned (.int .i64 (M (a / 8))) ∧ w' = W) := fun W K => kind_in (HO.out.keep0 (HK.out.trans K)) han
      have j0 : (0 : Int) ≤ j := by omega
      have j1 : (j : Int) < L.length := by omega
      have HBX : Hid ((wr.alloc (.cells #[.int .i64 (a : Int), .int .i64 (o : Int)] 96)).heap[wr.heap.size]? = some (.cells #[.int .i64 (a : Int), .int .i64 (o : Int)] 96 (0, 0))) := heap_alloc_new wr _
      have HKA : Hid (Keep (fun _ => False) wr (wr.alloc (.cells #[.int .i64 (a : Int), .int .i64 (o : Int)] 96))) := (Keep.refl _ _).alloc _
      obtain ⟨b0, b1⟩ := cell2b HBX.out
      have hd10 := (HKA.out.block n10 (block_lt H10.out) id).trans H10.out
      have HD10 := Lib.hid hd10
      have HD8 := Lib.hid ((HKA.out.block n8 (block_lt H8.out) id).trans H8.out)
      obtain ⟨d0, d1⟩ := cell2b hd10
      have f0 : (wr.alloc (.cells #[.int .i64 (a : Int), .int .i64 (o : Int)] 96)).frozen? ⟨n10, 0, none⟩ = false := frozen_block hd10
      have f1 : (wr.alloc (.cells #[.int .i64 (a : Int), .int .i64 (o : Int)] 96)).frozen? ⟨n10, 1, none⟩ = false := frozen_block hd10
      have hne : wr.heap.size ≠ n10 := by have := block_lt H10.out; omega
      have hne' : n10 ≠ wr.heap.size := fun e => hne e.symm
      have HN8 : Hid (n8 ≠ n10) := by have := HN.out.2; show n8 ≠ n10; omega
      have HN10 : Hid (w.heap.size ≤ n10) := by have := HN.out.1; have := HN.out.2; show _ ≤ _; omega
      clear hd10 hy
      by_cases hm : M (a / 8) = x
      · have t0 : (M (a / 8) != x) = false := by simp [hm]
        cases z with
        | none =>
          rw [bst1_none hm] at hstep
          have HST := Lib.hid hstep
          clear hstep hm
          simp only [Option.isSome_none]
          go_wp2_with (go_at_call 62; refine (HKI.out _ (by (repeat (first | exact HKA.out | exact Keep.refl _ _ | refine Keep.drew ?_ | refine Keep.drewN ?_ _ | refine Keep.alloc ?_ _ | refine Keep.setNew ?_ (by omega) _)); done)).mono ?_; rintro e w2 ⟨rfl, rfl⟩)
          exact ⟨⟨j + 1, true, by omega, by go_num, rfl, some ⟨a, o⟩, HST.out.symm, rfl, set2 HD10.out, (set2_ne HN8.out).trans HD8.out, ((HK.out.trans HKA.out).setNew HN10.out _).setNew HN10.out _⟩, by simp [intOf]; omega⟩
        | some u =>
          simp only [fb, Option.getD_some] at d0 d1
          rw [bst1_some hm] at hstep
          simp only [Option.isSome_some]
          cases g with
          | true =>
            by_cases hc : u.o < (o : Int)
            · rw [if_pos (.inl ⟨rfl, hc⟩)] at hstep
              have t1 : decide (u.o < (o : Int)) = true := decide_eq_true hc
              have HST := Lib.hid hstep
              clear hstep hm hc
              go_wp2_with (go_at_call 62; refine (HKI.out _ (by (repeat (first | exact HKA.out | exact Keep.refl _ _ | refine Keep.drew ?_ | refine Keep.drewN ?_ _ | refine Keep.alloc ?_ _ | refine Keep.setNew ?_ (by omega) _)); done)).mono ?_; rintro e w2 ⟨rfl, rfl⟩)
              exact ⟨⟨j + 1, true, by omega, by go_num, rfl, some ⟨a, o⟩, HST.out.symm, rfl, set2 HD10.out, (set2_ne HN8.out).trans HD8.out, ((HK.out.trans HKA.out).setNew HN10.out _).setNew HN10.out _⟩, by simp [intOf]; omega⟩
            · rw [if_neg (by simp; omega)] at hstep
              have t1 : decide (u.o < (o : Int)) = false := decide_eq_false hc
              have HST := Lib.hid hstep
              clear hstep hm hc
              go_wp2_with (go_at_call 62; refine (HKI.out _ (by (repeat (first | exact HKA.out | exact Keep.refl _ _ | refine Keep.drew ?_ | refine Keep.drewN ?_ _ | refine Keep.alloc ?_ _ | refine Keep.setNew ?_ (by omega) _)); done)).mono ?_; rintro e w2 ⟨rfl, rfl⟩)
              exact ⟨⟨j + 1, true, by omega, by go_num, rfl, some u, HST.out.symm, rfl, HD10.out, HD8.out, HK.out.trans HKA.out⟩, by simp [intOf]; omega⟩
          | false =>
            by_cases hc : (o : Int) < u.o
            · rw [if_pos (.inr ⟨rfl, hc⟩)] at hstep
              have t1 : decide ((o : Int) < u.o) = true := decide_eq_true hc
              have HST := Lib.hid hstep
              clear hstep hm hc
              go_wp2_with (go_at_call 62; refine (HKI.out _ (by (repeat (first | exact HKA.out | exact Keep.refl _ _ | refine Keep.drew ?_ | refine Keep.drewN ?_ _ | refine Keep.alloc ?_ _ | refine Keep.setNew ?_ (by omega) _)); done)).mono ?_; rintro e w2 ⟨rfl, rfl⟩)
              exact ⟨⟨j + 1, true, by omega, by go_num, rfl, some ⟨a, o⟩, HST.out.symm, rfl, set2 HD10.out, (set2_ne HN8.out).trans HD8.out, ((HK.out.trans HKA.out).setNew HN10.out _).setNew HN10.out _⟩, by simp [intOf]; omega⟩
            · rw [if_neg (by simp; omega)] at hstep
              have t1 : decide ((o : Int) < u.o) = false := decide_eq_false hc
              have HST := Lib.hid hstep
              clear hstep hm hc
              go_wp2_with (go_at_call 62; refine (HKI.out _ (by (repeat (first | exact HKA.out | exact Keep.refl _ _ | refine Keep.drew ?_ | refine Keep.drewN ?_ _ | refine Keep.alloc ?_ _ | refine Keep.setNew ?_ (by omega) _)); done)).mono ?_; rintro e w2 ⟨rfl, rfl⟩)
              exact ⟨⟨j + 1, true, by omega, by go_num, rfl, some u, HST.out.symm, rfl, HD10.out, HD8.out, HK.out.trans HKA.out⟩, by simp [intOf]; omega⟩
      · have t0 : (M (a / 8) != x) = true := by simp [hm]
        rw [bst1_no hm] at hstep
        have HST := Lib.hid hstep
        clear hstep hm
        go_wp2_with (go_at_call 62; refine (HKI.out _ (by (repeat (first | exact HKA.out | exact Keep.refl _ _ | refine Keep.drew ?_ | refine Keep.drewN ?_ _ | refine Keep.alloc ?_ _ | refine Keep.setNew ?_ (by omega) _)); done)).mono ?_; rintro e w2 ⟨rfl, rfl⟩)
        go_roundw
        case rel => exact ⟨j + 1, z.isSome, by omega, by go_num, rfl, z, HST.out.symm, rfl, HD10.out, HD8.out, HK.out.trans HKA.out⟩
        case measure => simp [intOf]; omega
    · obtain rfl : j = L.length := by omega
      rw [List.take_length] at HZ
      obtain ⟨d0, d1⟩ := cell2b H10.out
      obtain ⟨x0, x1⟩ := cell2b H8.out
      have f0 : wr.frozen? ⟨n8, 0, none⟩ = false := frozen_block H8.out
      have f1 : wr.frozen? ⟨n8, 1, none⟩ = false := frozen_block H8.out
      go_wp2
      obtain ⟨q1, q2⟩ := cell2b (set2 (u := .int .i64 (fb z).f) (v := .int .i64 (fb z).o) H8.out)
      refine bodyPost_ret (v := .tuple #[.agg #[.int .i64 (fb z).f, .int .i64 (fb z).o], .bool z.isSome]) (by simp [results, Tryz.results67, go_sem, q1, q2]) rfl ⟨?_, (HK.out.setNew (Nat.le_of_eq HN.out.1) _).setNew (Nat.le_of_eq HN.out.1) _⟩
      have e : bst M x g L = z := HZ.out.symm
      rw [e]

/- Part KG: Kinds: the pieces, one by one. -/
def flO (o : Int) (L : List Bk) : List Bk := L.filter fun y => decide (o ≤ y.o)
/-- What pieces has gathered: the order n3, the row n5; P are blocks that stay. -/
def PcI (w : World) (n3 n5 C : Nat) (P : Nat → Prop) (o : Int) (A : List Bk) : Prop :=
  ∃ v, w.heap[n3]? = some (.cells #[.int .i64 o] 3 (0, 0)) ∧ w.heap[n5]? = some (.cells #[v] 64 (0, 0)) ∧ OwnL bkE w C 96 v A ∧ (∀ x, v.ownBlock = some x → ¬ P x) ∧ C ≤ n3 ∧ C ≤ n5 ∧ ¬ P n3 ∧ ¬ P n5 ∧ (∀ z, P z → z < w.heap.size) ∧ C ≤ w.heap.size
def KP (C : Nat) (P : Nat → Prop) (w w' : World) : Prop := Keep (fun z => C ≤ z ∧ ¬ P z) w w'
theorem PcI.keep0 {w w' : World} {n3 n5 C : Nat} {P : Nat → Prop} {o : Int} {A : List Bk} (h : PcI w n3 n5 C P o A) (K : Keep (fun _ => False) w w') : PcI w' n3 n5 C P o A := by
  obtain ⟨v, h1, h2, h3, h4, h5, h6, h7, h8, h9, h10⟩ := h
  exact ⟨v, (K.block _ (block_lt h1) id).trans h1, (K.block _ (block_lt h2) id).trans h2, h3.keep K (fun _ _ => id), h4, h5, h6, h7, h8, fun z hz => Nat.lt_of_lt_of_le (h9 z hz) K.size, Nat.le_trans h10 K.size⟩

theorem own_conv49 {w : World} {C m : Nat} {v : Value} {cs : List Value} {T : List Bk} (h : w.ownsRow C 96 2 v m cs) (hm : m = T.length) (hc : cs = bkE.cs T) : OwnL bkE w C 96 v T := by
  subst hm; subst hc; exact h
theorem own_ne38 {w w1 : World} {C b : Nat} {v : Value} {T : List Bk} {c : Array Value} (h : OwnL bkE w1 C 96 v T) (K : Keep (fun _ => False) w w1) (hb : w.heap[b]? = some (.cells c 64 (0, 0))) : ¬ v.ownBlock = some b := fun e => by
  obtain ⟨c, hc⟩ := own_typ h e
  exact typ_ne ((K.block b (block_lt hb) id).trans hb) hc (by decide) rfl

theorem own_net {w : World} {C b e : Nat} {v : Value} {T : List Bk} {c : Array Value} (h : OwnL bkE w C 96 v T) (hb : w.heap[b]? = some (.cells c e (0, 0))) (he : e ≠ 96) : ¬ v.ownBlock = some b := fun e => by
  obtain ⟨c, hc⟩ := own_typ h e
  exact typ_ne hb hc he rfl
theorem pc_close {w w1 : World} {n3 n5 C : Nat} {P : Nat → Prop} {o : Int} {A A' : List Bk} {v v' : Value} (h1 : w.heap[n3]? = some (.cells #[.int .i64 o] 3 (0, 0))) (h2 : w.heap[n5]? = some (.cells #[v] 64 (0, 0))) (h3 : OwnL bkE w C 96 v A)
    (h4 : ∀ x, v.ownBlock = some x → ¬ P x) (h5 : C ≤ n3) (h6 : C ≤ n5) (h7 : ¬ P n3) (h8 : ¬ P n5) (h9 : ∀ z, P z → z < w.heap.size) (h10 : C ≤ w.heap.size)
    (K : Keep (fun z => v.ownBlock = some z) w w1) (ho : OwnL bkE w1 C 96 v' A') (hv : ∀ x, v'.ownBlock = some x → v.ownBlock = some x ∨ w.heap.size ≤ x) :
    PcI (w1.setCell ⟨n5, 0, none⟩ v') n3 n5 C P o A' ∧ KP C P w (w1.setCell ⟨n5, 0, none⟩ v') := by
  have e3 := own_net h3 h1 (by decide)
  have e5 := own_net h3 h2 (by decide)
  have KS : Keep (fun z => z = n5) w1 (w1.setCell ⟨n5, 0, none⟩ v') := (Keep.refl (fun z => z = n5) w1).setCell (p := ⟨n5, 0, none⟩) (fun _ => rfl) v'
  have b5 := (K.block n5 (block_lt h2) e5).trans h2
  refine ⟨⟨v', ?_, ?_, ho.keep KS ?_, fun x hx hp => ?_, h5, h6, h7, h8, fun z hz => Nat.lt_of_lt_of_le (h9 z hz) (Nat.le_trans K.size KS.size), Nat.le_trans h10 (Nat.le_trans K.size KS.size)⟩, ?_⟩
  · rw [heap_setCell_ne (typ_ne h1 h2 (by decide))]
    exact (K.block n3 (block_lt h1) e3).trans h1
  · rw [heap_setCell_eq b5]; simp
  · intro x hx e
    subst e
    rcases hv x hx with h | h
    · exact e5 h
    · have := block_lt h2; omega
  · rcases hv x hx with h | h
    · exact h4 x h hp
    · have := h9 x hp; omega
  · exact (K.mono fun z _ hz => ⟨(h3.lt z hz).1, h4 z hz⟩).setCell (fun _ => ⟨h6, h8⟩) _

set_option maxRecDepth 100000 in
set_option maxHeartbeats 2000000 in
theorem put_pc {w : World} {n3 n5 C : Nat} {P : Nat → Prop} {o : Int} {A : List Bk} (y : Bk) (h : PcI w n3 n5 C P o A) (hl : A.length ≤ 1000000) :
    Calls Tryz.prog 85 #[.agg #[.int .i64 y.f, .int .i64 y.o], .pointer (some ⟨n3, 0, none⟩), .pointer (some ⟨n5, 0, none⟩)] w fun e w' => e = .returned (.tuple #[]) ∧ PcI w' n3 n5 C P o (A ++ flO o [y]) ∧ KP C P w w' := by
  obtain ⟨yf, yo⟩ := y
  have HPC := Lib.hid h
  obtain ⟨v, h1, h2, h3, h4, h5, h6, h7, h8, h9, h10⟩ := h
  have HBX : Hid ((w.alloc (.cells #[.int .i64 yf, .int .i64 yo] 96)).heap[w.heap.size]? = some (.cells #[.int .i64 yf, .int .i64 yo] 96 (0, 0))) := heap_alloc_new w _
  have HK1 : Hid (Keep (fun _ => False) w (w.alloc (.cells #[.int .i64 yf, .int .i64 yo] 96))) := (Keep.refl _ _).alloc _
  have g1 := (HK1.out.block _ (block_lt h1) id).trans h1
  have g2 := (HK1.out.block _ (block_lt h2) id).trans h2
  have g3 := h3.keep HK1.out (fun _ _ => id)
  have hsz : (w.alloc (.cells #[.int .i64 yf, .int .i64 yo] 96)).heap.size = w.heap.size + 1 := World.size_alloc _ _
  by_cases hc : o ≤ yo
  · have t0 : decide (o ≤ yo) = true := decide_eq_true hc
    have HFL : Hid (flO o [⟨yf, yo⟩] = [⟨yf, yo⟩]) := by unfold Hid flO; simp [hc]
    have H2 := Lib.hid h2
    have H4 := Lib.hid (And.intro h4 (And.intro h9 h10))
    have HCL := Lib.hid (fun (w1 : World) (v' : Value) (A' : List Bk) => pc_close (w1 := w1) (v' := v') (A' := A') h1 h2 h3 h4 h5 h6 h7 h8 h9 h10)
    obtain ⟨b0, b1⟩ := cell2b HBX.out
    have d0 := cell1 g1
    have d1 := cell1 g2
    have fz : (w.alloc (.cells #[.int .i64 yf, .int .i64 yo] 96)).frozen? ⟨n5, 0, none⟩ = false := frozen_block g2
    have HG3 := Lib.hid g3
    have HKA0 := HK1
    have HKA : Hid (Keep (fun _ => False) w ((w.alloc (.cells #[.int .i64 yf, .int .i64 yo] 96)).alloc (.cells #[.int .i64 yf, .int .i64 yo] 96))) := HK1.out.alloc _
    clear hc h1 h2 h3 h4 h5 h6 h7 h8 h9 g1 g2 g3
    go_enter Tryz.func85, Tryz.ntmps85
    have hnew : ((w.alloc (.cells #[.int .i64 yf, .int .i64 yo] 96)).alloc (.cells #[.int .i64 yf, .int .i64 yo] 96)).heap[w.heap.size + 1]? = some (.cells #[.int .i64 yf, .int .i64 yo] 96 (0, 0)) := by
      have h := heap_alloc_new (w.alloc (.cells #[.int .i64 yf, .int .i64 yo] 96)) (.cells #[.int .i64 yf, .int .i64 yo] 96)
      rw [hsz] at h; exact h
    have HNEW := Lib.hid hnew
    have hsz2 : ((w.alloc (.cells #[.int .i64 yf, .int .i64 yo] 96)).alloc (.cells #[.int .i64 yf, .int .i64 yo] 96)).heap.size = w.heap.size + 2 := by rw [World.size_alloc, hsz]
    have HCS : Hid (C ≤ ((w.alloc (.cells #[.int .i64 yf, .int .i64 yo] 96)).alloc (.cells #[.int .i64 yf, .int .i64 yo] 96)).heap.size) := by show C ≤ _; rw [hsz2]; have := H4.out.2.2; omega
    have HSZ2 := Lib.hid hsz2
    clear hnew hsz hsz2
    go_wp2_with (at_builtin; go_loud (refine wpl_appF et43 rfl (.tmp 8) (.tmp 10) rfl C v A.length (bkE.cs A) (by rfl) ((HG3.out.keep (S := fun _ => False) ((Keep.refl _ _).alloc _) (fun _ _ => id))) ⟨w.heap.size + 1, 0, none⟩ 1 1 [.int .i64 yf, .int .i64 yo] (by rfl) rfl (new_cells HNEW.out) (by simp [Value.oneCell']) (by unfold maxLen; omega) (by omega) HCS.out ?_; intro v1 w1 ho1 hg1 hv1; obtain ⟨a1, l1, c1, rfl⟩ := own_slice ho1; have HK2 : Hid (Keep (fun z => v.ownBlock = some z) w w1) := Keep.grown (HKA.out.mono (fun _ _ h => h.elim)) hg1 (fun x h1 h2 => h1); have HO1 : Hid (OwnL bkE w1 C 96 (.slice a1 l1 c1) (A ++ [⟨yf, yo⟩])) := own_conv49 ho1 (by simp) (by rw [bkE.cs_append, bkE.cs_one]; rfl); have HV1 : Hid (∀ x, (Value.slice a1 l1 c1).ownBlock = some x → v.ownBlock = some x ∨ w.heap.size ≤ x) := fun x hx => (hv1 x hx).imp id (fun h => by rw [HSZ2.out] at h; omega); have e1 : w1.cell? ⟨n5, 0, none⟩ = some v := (HK2.out.cell (block_lt H2.out) (own_ne38 HG3.out HKA0.out H2.out)).trans (cell1 H2.out); have fz1 : w1.frozen? ⟨n5, 0, none⟩ = false := (HK2.out.frozen (block_lt H2.out) (own_ne38 HG3.out HKA0.out H2.out)).trans (frozen_block H2.out); clear ho1 hg1 hv1 d0 d1 b0 b1 fz))
    have hcl := HCL.out w1 (.slice a1 l1 c1) (A ++ [⟨yf, yo⟩]) HK2.out HO1.out HV1.out
    go_end0
    exact ⟨rfl, by rw [HFL.out]; exact hcl.1, hcl.2⟩
  · have t0 : decide (o ≤ yo) = false := decide_eq_false hc
    have HFL : Hid (flO o [⟨yf, yo⟩] = []) := by unfold Hid flO; simp [hc]
    obtain ⟨b0, b1⟩ := cell2b HBX.out
    have d0 := cell1 g1
    clear h1 h2 h3 h4 h5 h6 h7 h8 h9 g1 g2 g3 hc
    go_enter Tryz.func85, Tryz.ntmps85
    go_wp2
    go_end0
    exact ⟨rfl, by rw [HFL.out, List.append_nil]; exact HPC.out.keep0 HK1.out, HK1.out.mono (fun _ _ h => h.elim)⟩

/- Part KH: Kinds: pieces. -/
theorem PcI.add {w w' : World} {n3 n5 C b : Nat} {P : Nat → Prop} {o : Int} {A : List Bk} (h : PcI w n3 n5 C P o A) (K : Keep (fun _ => False) w w') (hb : w.heap.size ≤ b) (hb2 : b < w'.heap.size) : PcI w' n3 n5 C (fun z => P z ∨ z = b) o A := by
  obtain ⟨v, h1, h2, h3, h4, h5, h6, h7, h8, h9, h10⟩ := h
  refine ⟨v, (K.block _ (block_lt h1) id).trans h1, (K.block _ (block_lt h2) id).trans h2, h3.keep K (fun _ _ => id), ?_, h5, h6, ?_, ?_, ?_, Nat.le_trans h10 K.size⟩
  · rintro x hx (hp | rfl)
    · exact h4 x hx hp
    · have := (h3.lt x hx).2; omega
  · rintro (hp | e)
    · exact h7 hp
    · have := block_lt h1; omega
  · rintro (hp | e)
    · exact h8 hp
    · have := block_lt h2; omega
  · rintro z (hz | rfl)
    · exact Nat.lt_of_lt_of_le (h9 z hz) K.size
    · exact hb2
theorem PcI.less {w : World} {n3 n5 C : Nat} {P P' : Nat → Prop} {o : Int} {A : List Bk} (h : PcI w n3 n5 C P' o A) (hP : ∀ z, P z → P' z) : PcI w n3 n5 C P o A := by
  obtain ⟨v, h1, h2, h3, h4, h5, h6, h7, h8, h9, h10⟩ := h
  exact ⟨v, h1, h2, h3, fun x hx hp => h4 x hx (hP x hp), h5, h6, fun hp => h7 (hP _ hp), fun hp => h8 (hP _ hp), fun z hz => h9 z (hP z hz), h10⟩
theorem pcs_take {M : Nat → Int} {D : List Bk} {j : Nat} (hj : j < D.length) : pcs M (D.take (j + 1)) = pcs M (D.take j) ++ pcB M D[j] := by
  unfold pcs
  rw [List.take_succ_eq_append_getElem hj, List.flatMap_append]; simp
theorem pcB_len {M : Nat → Int} {x : Bk} (h : x.o.toNat ≤ 8) : (pcB M x).length ≤ 32 := by
  unfold pcB
  split
  · simp
  · rw [List.length_map, List.length_range]
    exact Nat.le_trans (Nat.pow_le_pow_right (n := 2) (by decide) (show x.o.toNat - 3 ≤ 5 by omega)) (by decide)
theorem pcs_len {M : Nat → Int} : ∀ {L : List Bk}, (∀ x, x ∈ L → x.o.toNat ≤ 8) → (pcs M L).length ≤ 32 * L.length
  | [], _ => by simp [pcs]
  | x :: L, h => by
    have h1 := pcB_len (M := M) (h x (List.mem_cons_self ..))
    have h2 := pcs_len (M := M) (L := L) fun y hy => h y (List.mem_cons_of_mem _ hy)
    have e : pcs M (x :: L) = pcB M x ++ pcs M L := by simp [pcs]
    rw [e, List.length_append, List.length_cons]; omega
theorem flO_len (o : Int) (L : List Bk) : (flO o L).length ≤ L.length := List.length_filter_le _ _
theorem flO_app (o : Int) (L R : List Bk) : flO o (L ++ R) = flO o L ++ flO o R := List.filter_append ..
/-- The sections of a block. -/
def secs (a Q : Nat) : List Bk := (List.range Q).map fun (i : Nat) => (⟨(a : Int) + 8 * i, 3⟩ : Bk)
theorem secs_succ (a i : Nat) : secs a (i + 1) = secs a i ++ [⟨((a + 8 * i : Nat) : Int), 3⟩] := by
  unfold secs; rw [List.range_succ, List.map_append]; simp
theorem pcB_one {M : Nat → Int} {a k : Nat} (h : k ≤ 3 ∨ alB M a k = false) : pcB M ⟨a, k⟩ = [⟨a, k⟩] := by
  unfold pcB
  rw [if_pos]
  rcases h with h | h
  · left; simp; omega
  · right; simpa using h
theorem pcB_many {M : Nat → Int} {a k : Nat} (h : 3 < k) (h2 : alB M a k = true) : pcB M ⟨a, k⟩ = secs a (2 ^ (k - 3)) := by
  unfold pcB secs
  rw [if_neg]
  · simp
  · rintro (h3 | h3)
    · simp at h3; omega
    · simp at h3; rw [h2] at h3; cases h3
/-- What pieces answers. -/
def PcC (F : Nat → Bool) (M : Nat → Int) (o : Int) (w : World) (e : Ending) (w' : World) : Prop :=
  ∃ v D, e = .returned v ∧ IsBl F D ∧ OwnL bkE w' w.heap.size 96 v (pcO M D o) ∧ (pcO M D o).length ≤ 1000000 ∧ Keep (fun _ => False) w w'
/-- The state behind some pieces. -/
def PcS (w wr : World) (n3 n5 C : Nat) (P : Nat → Prop) (o : Int) (v15 : Value) (D A : List Bk) : Prop :=
  PcI wr n3 n5 C P o A ∧ Keep (fun _ => False) w wr ∧ OwnL bkE wr C 96 v15 D
theorem keep_fresh {w wr w' : World} {S : Nat → Prop} (K : Keep (fun _ => False) w wr) (h : Keep S wr w') (hS : ∀ z, S z → w.heap.size ≤ z) : Keep (fun _ => False) w w' :=
  ⟨h.os.trans K.os, h.tape.trans K.tape, h.output.trans K.output, Nat.le_trans K.size h.size, fun k hk _ => (h.block k (Nat.lt_of_lt_of_le hk K.size) fun hs => by have := hS k hs; omega).trans (K.block k hk id)⟩
theorem PcS.put {w wr : World} {n3 n5 : Nat} {P : Nat → Prop} {o : Int} {v15 : Value} {D A : List Bk} (y : Bk) (h : PcS w wr n3 n5 w.heap.size P o v15 D A) (hP : ∀ z, v15.ownBlock = some z → P z) (hl : A.length ≤ 1000000) :
    Calls Tryz.prog 85 #[.agg #[.int .i64 y.f, .int .i64 y.o], .pointer (some ⟨n3, 0, none⟩), .pointer (some ⟨n5, 0, none⟩)] wr fun e w' => e = .returned (.tuple #[]) ∧ PcS w w' n3 n5 w.heap.size P o v15 D (A ++ flO o [y]) ∧ KP w.heap.size P wr w' := by
  refine (put_pc y h.1 hl).mono ?_
  rintro e w' ⟨rfl, h1, h2⟩
  exact ⟨rfl, ⟨h1, keep_fresh h.2.1 h2 (fun z hz => hz.1), h.2.2.keep h2 (fun x hx h3 => h3.2 (hP x hx))⟩, h2⟩

theorem PcS.keep0 {w wr w' : World} {n3 n5 C : Nat} {P : Nat → Prop} {o : Int} {v15 : Value} {D A : List Bk} (h : PcS w wr n3 n5 C P o v15 D A) (K : Keep (fun _ => False) wr w') : PcS w w' n3 n5 C P o v15 D A :=
  ⟨h.1.keep0 K, h.2.1.trans K, h.2.2.keep K (fun _ _ => id)⟩
theorem kb_blocks {w : World} {B k b kr n : Nat} {F : Nat → Bool} {M : Nat → Int} {N : Nat → Prop} (h : KO w B k b kr n F M N) : Calls Tryz.prog 83 #[.pointer (some ⟨b, 0, none⟩)] w (BlC F w) := blocks_any h.bf
theorem pcs_start {w w1 w2 : World} {n3 n5 : Nat} {o : Int} {v15 : Value} {D : List Bk} (h3 : w1.heap[n3]? = some (.cells #[.int .i64 o] 3 (0, 0))) (h5 : w1.heap[n5]? = some (.cells #[.slice none 0 0] 64 (0, 0))) (K : Keep (fun _ => False) w w1) (hO : OwnL bkE w2 w1.heap.size 96 v15 D) (K2 : Keep (fun _ => False) w1 w2)
    (e3 : w.heap.size ≤ n3) (e5 : w.heap.size ≤ n5) : PcS w w2 n3 n5 w.heap.size (fun z => v15.ownBlock = some z) o v15 D [] := by
  have g3 := (K2.block _ (block_lt h3) id).trans h3
  have g5 := (K2.block _ (block_lt h5) id).trans h5
  refine ⟨⟨.slice none 0 0, g3, g5, OwnL.nil _ _ _, fun x hx => by simp [Value.ownBlock] at hx, e3, e5, own_net hO g3 (by decide), own_net hO g5 (by decide), fun z hz => (hO.lt z hz).2, Nat.le_trans K.size K2.size⟩, K.trans K2, hO.base fun x hx => Nat.le_trans K.size (hO.lt x hx).1⟩

set_option maxRecDepth 100000 in
set_option maxHeartbeats 4000000 in
theorem pieces_any {w : World} {B k b kr n : Nat} {F : Nat → Bool} {M : Nat → Int} {N : Nat → Prop} (o : Int) (h : KO w B k b kr n F M N) :
    Calls Tryz.prog 66 #[.pointer (some ⟨k, 0, none⟩), .int .i64 o] w (PcC F M o w) := by
  have HO := Lib.hid h
  have h3 := heap_alloc_new w (.cells #[.int .i64 o] 3)
  have h5 := heap_alloc_new (w.alloc (.cells #[.int .i64 o] 3)) (.cells #[.slice none 0 0] 64)
  have h3' : ((w.alloc (.cells #[.int .i64 o] 3)).alloc (.cells #[.slice none 0 0] 64)).heap[w.heap.size]? = some (.cells #[.int .i64 o] 3 (0, 0)) := by
    rw [heap_alloc_at, if_neg (by simp)]; exact h3
  rw [World.size_alloc] at h5
  have HB3 := Lib.hid h3'
  have HB5 := Lib.hid h5
  have HKA : Hid (Keep (fun _ => False) w ((w.alloc (.cells #[.int .i64 o] 3)).alloc (.cells #[.slice none 0 0] 64))) := ((Keep.refl _ _).alloc _).alloc _
  obtain ⟨z0, z1, z2⟩ := cells3 (h.keep0 HKA.out).hk
  clear h h3 h5 h3'
  go_enter Tryz.func66, Tryz.ntmps66
  go_wp2_with fail
  generalize (w.alloc (.cells #[.int .i64 o] 3)).alloc (.cells #[.slice none 0 0] 64) = w1 at HB3 HB5 HKA z0 z1 z2 ⊢
  obtain ⟨n5, hn5⟩ : ∃ n5, w.heap.size + 1 = n5 := ⟨_, rfl⟩
  rw [hn5] at HB5 ⊢
  obtain ⟨n3, hn3⟩ : ∃ n3, w.heap.size = n3 := ⟨_, rfl⟩
  have HN : Hid (w.heap.size ≤ n3 ∧ w.heap.size ≤ n5) := ⟨by omega, by omega⟩
  rw [hn3] at HB3 ⊢
  clear hn3 hn5
  refine (kb_blocks (HO.out.keep0 HKA.out)).mono ?_
  rintro e w2 ⟨v15, D, rfl, hO, hI, hl, hk2⟩
  obtain ⟨a15, c15, rfl, hag⟩ := hO.slice
  have HPS : Hid (PcS w w2 n3 n5 w.heap.size (fun z => (Value.slice a15 D.length c15).ownBlock = some z) o (.slice a15 D.length c15) D []) :=
    pcs_start HB3.out HB5.out HKA.out hO hk2 HN.out.1 HN.out.2
  have HI := Lib.hid hI
  have HL := Lib.hid hl
  have HAG := Lib.hid hag
  have HD8 : Hid (∀ x, x ∈ D → x.o.toNat ≤ 8) := fun x hx => by
    obtain ⟨q, a, hm, rfl⟩ := (hI.2 x).mp hx
    simpa using hm.1
  have HFN := Lib.hid HO.out.bf.fin
  have HN1 := Lib.hid HO.out.bf.n1024
  clear z0 z1 z2 hO hI hl hag hk2
  go_wp2
  go_loopw [17] (fun i wr => ∃ j : Nat, j ≤ D.length ∧ i = .int .i64 (j : Int) ∧ PcS w wr n3 n5 w.heap.size (fun z => (Value.slice a15 D.length c15).ownBlock = some z) o (.slice a15 D.length c15) D (flO o (pcs M (D.take j)))) (fun i _ => D.length - (intOf i).toNat)
  case atStart => exact ⟨0, by omega, rfl, HPS.out⟩
  case round =>
    obtain ⟨j, hj, rfl, hS⟩ := hrel
    have HS := Lib.hid hS
    clear hS HPS
    have HLA : Hid ((flO o (pcs M (D.take j))).length ≤ 320000) := by
      have h1 := flO_len o (pcs M (D.take j))
      have h2 := pcs_len (M := M) (L := D.take j) fun x hx => HD8.out x (List.mem_of_mem_take hx)
      have h3 := HL.out
      rw [List.length_take] at h2
      show _ ≤ _
      omega
    by_cases hjl : j < D.length
    · obtain ⟨g0, rfl⟩ := HAG.out (by intro e; rw [e] at hjl; simp at hjl)
      obtain ⟨c0, c1⟩ := bk_cells HS.out.2.2 hjl
      have hstep := pcs_take (M := M) hjl
      obtain ⟨q, a, hm, hy⟩ := (HI.out.2 _).mp (List.getElem_mem hjl)
      rw [hy] at c0 c1 hstep
      simp only at c0 c1
      have hend := blk_end HFN.out hm.2.2.1
      have HM := Lib.hid hm
      have j0 : (0 : Int) ≤ j := by omega
      have j1 : (j : Int) < D.length := by omega
      have j2 : (j : Int) < 20000 := by have := HL.out; omega
      have hq8 := hm.1
      have HBX : Hid ((wr.alloc (.cells #[.int .i64 (a : Int), .int .i64 (q : Int)] 96)).heap[wr.heap.size]? = some (.cells #[.int .i64 (a : Int), .int .i64 (q : Int)] 96 (0, 0))) := heap_alloc_new wr _
      have HKB : Hid (Keep (fun _ => False) wr (wr.alloc (.cells #[.int .i64 (a : Int), .int .i64 (q : Int)] 96))) := (Keep.refl _ _).alloc _
      obtain ⟨b0, b1⟩ := cell2b HBX.out
      have HS5 : Hid (PcS w (wr.alloc (.cells #[.int .i64 (a : Int), .int .i64 (q : Int)] 96)) n3 n5 w.heap.size (fun z => (Value.slice (some ⟨g0, 0, none⟩) D.length c15).ownBlock = some z) o (.slice (some ⟨g0, 0, none⟩) D.length c15) D (flO o (pcs M (D.take j)))) := ⟨HS.out.1.keep0 HKB.out, HS.out.2.1.trans HKB.out, HS.out.2.2.keep HKB.out (fun _ _ => id)⟩
      have HADD : Hid (PcI (wr.alloc (.cells #[.int .i64 (a : Int), .int .i64 (q : Int)] 96)) n3 n5 w.heap.size (fun z => (Value.slice (some ⟨g0, 0, none⟩) D.length c15).ownBlock = some z ∨ z = wr.heap.size) o (flO o (pcs M (D.take j)))) := HS.out.1.add HKB.out (Nat.le_refl _) (by simp)
      clear hm hy
      by_cases hq3 : q ≤ 3
      · have t0 : decide ((q : Int) ≤ 3) = true := by simp; omega
        have t0' : decide (q ≤ 3) = true := by simp; omega
        rw [pcB_one (.inl hq3)] at hstep
        have HST := Lib.hid hstep
        clear hstep hq3 hend
        go_wp2_with (go_at_call 85; refine (HS5.out.put ⟨(a : Int), (q : Int)⟩ (fun _ h => h) (Nat.le_trans HLA.out (by decide))).mono ?_; rintro e w6 ⟨rfl, hs6, hk6⟩; have HS6 := Lib.hid hs6; clear hs6 hk6)
        go_roundw
        case rel => exact ⟨j + 1, by omega, by go_num, by rw [HST.out, flO_app]; exact HS6.out⟩
        case measure => simp [intOf]; omega
      · have t0 : decide ((q : Int) ≤ 3) = false := by simp; omega
        have t0' : decide (q ≤ 3) = false := by simp; omega
        have ha8 : a % 8 = 0 := by have := mod_of_le (j := 3) (show 3 ≤ q by omega) HM.out.2.1; simpa using this
        have HAL : Hid (∀ W, Keep (fun _ => False) w W → Calls Tryz.prog 86 #[.pointer (some ⟨k, 0, none⟩), .agg #[.int .i64 (a : Int), .int .i64 (q : Int)]] W fun e w' => e = .returned (.bool (alB M a q)) ∧ Keep (fun _ => False) W w') := fun W K => alone_any a q (HO.out.keep0 K) (by omega) hq8 ha8 hend
        cases hal : alB M a q with
        | false =>
          rw [pcB_one (.inr hal)] at hstep
          rw [hal] at HAL
          have HST := Lib.hid hstep
          clear hstep hal hend
          go_wp2_with (first | (go_at_call 86; refine (HAL.out _ (HS5.out.2.1)).mono ?_; rintro e w6 ⟨rfl, hk6⟩; have HS6 := Lib.hid (HS5.out.keep0 hk6); have HK6 := Lib.hid hk6; clear hk6 b0 b1; obtain ⟨b0, b1⟩ := cell2b ((HK6.out.block _ (block_lt HBX.out) id).trans HBX.out)) | (go_at_call 85; refine (HS6.out.put ⟨(a : Int), (q : Int)⟩ (fun _ h => h) (Nat.le_trans HLA.out (by decide))).mono ?_; rintro e w7 ⟨rfl, hs7, hk7⟩; have HS7 := Lib.hid hs7; clear hs7 hk7))
          go_roundw
          case rel => exact ⟨j + 1, by omega, by go_num, by rw [HST.out, flO_app]; exact HS7.out⟩
          case measure => simp [intOf]; omega
        | true =>
          have hq4 : 3 < q := by omega
          rw [pcB_many hq4 hal] at hstep
          rw [hal] at HAL
          have HST := Lib.hid hstep
          obtain ⟨P, hP, e1, e2, hpb, -⟩ := bits_k q a hq8 (by have := HN1.out; have := p2 q; omega)
          have hp8 : P = 8 * 2 ^ (q - 3) := by rw [hP]; exact p8 (by omega)
          obtain ⟨Q, hQ⟩ : ∃ Q, 2 ^ (q - 3) = Q := ⟨_, rfl⟩
          have HQ := Lib.hid hQ
          have hap : a + P ≤ 1024 := by rw [hP]; exact Nat.le_trans hend HN1.out
          have hwe : IntKind.i64.wrap ((a : Int) + (P : Int)) = ((a + P : Nat) : Int) := wsum a P (by omega) (by omega)
          obtain ⟨E, hE⟩ : ∃ E, a + P = E := ⟨_, rfl⟩
          rw [hE] at hwe hap
          have HEQ : Hid (E = a + 8 * Q) := by show E = _; rw [← hE, hp8, hQ]
          have HQ32 : Hid (Q ≤ 32) := by have h1 := hpb.2; rw [hp8, hQ] at h1; show Q ≤ 32; omega
          clear hstep hal hend hP hp8 hQ hE hq4
          go_wp2_with (go_at_call 86; refine (HAL.out _ (HS5.out.2.1)).mono ?_; rintro e w6 ⟨rfl, hk6⟩; have HS6 := Lib.hid (HS5.out.keep0 hk6); have HA6 := Lib.hid (HADD.out.keep0 hk6); have HB6 := Lib.hid ((hk6.block _ (block_lt HBX.out) id).trans HBX.out); clear hk6 b0 b1; obtain ⟨b0, b1⟩ := cell2b HB6.out)
          obtain ⟨b8, hb8⟩ : ∃ b8, wr.heap.size = b8 := ⟨_, rfl⟩
          rw [hb8] at HA6 HB6 b0 b1
          try rw [hb8]
          have HPQ : Hid (PcS w w6 n3 n5 w.heap.size (fun z => (Value.slice (some ⟨g0, 0, none⟩) D.length c15).ownBlock = some z ∨ z = b8) o (.slice (some ⟨g0, 0, none⟩) D.length c15) D (flO o (pcs M (D.take j)) ++ flO o (secs a 0))) := ⟨by simpa [secs, flO] using HA6.out, HS6.out.2.1, HS6.out.2.2⟩
          clear HADD HBX HKB HS5 hb8 HAL b0 b1 HA6 HS6
          go_loopw [9] (fun i w7 => ∃ t u : Nat, i = .int .i64 (t : Int) ∧ t = a + 8 * u ∧ u ≤ Q ∧ PcS w w7 n3 n5 w.heap.size (fun z => (Value.slice (some ⟨g0, 0, none⟩) D.length c15).ownBlock = some z ∨ z = b8) o (.slice (some ⟨g0, 0, none⟩) D.length c15) D (flO o (pcs M (D.take j)) ++ flO o (secs a u)) ∧ w7.heap[b8]? = some (.cells #[.int .i64 (a : Int), .int .i64 (q : Int)] 96 (0, 0))) (fun i _ => 3000 - (intOf i).toNat)
          case atStart => exact ⟨a, 0, rfl, by omega, by omega, HPQ.out, HB6.out⟩
          case round =>
            obtain ⟨t, u, rfl, ht, hu, hS7, hb7⟩ := hrel
            have HS7 := Lib.hid hS7
            have HB7 := Lib.hid hb7
            obtain ⟨b0, b1⟩ := cell2b hb7
            have HTU := Lib.hid ht
            clear hS7 hb7 HPQ HB6
            by_cases hlt : t < E
            · have t1 : decide ((t : Int) < (E : Int)) = true := by simp; omega
              have t2 : decide (t < E) = true := by simp; omega
              have HUQ : Hid (u < Q) := by have := HEQ.out; show u < Q; omega
              have HLB : Hid ((flO o (pcs M (D.take j)) ++ flO o (secs a u)).length ≤ 1000000) := by
                have h1 := HLA.out
                have h2 := flO_len o (secs a u)
                have h3 : (secs a u).length = u := by simp [secs]
                have h4 := HQ32.out
                show _ ≤ _
                rw [List.length_append]
                omega
              have ht2 : (t : Int) < 2000 := by omega
              clear ht
              go_wp2
              go_quiet (fail)
              go_wp2_with (go_at_call 85; refine ((HS7.out.keep0 (by (repeat (first | exact Keep.refl _ _ | exact Keep.refl _ _ | refine Keep.drew ?_ | refine Keep.drewN ?_ _ | refine Keep.alloc ?_ _ | refine Keep.setNew ?_ (by omega) _)); done)).put ⟨(t : Int), 3⟩ (fun _ h => .inl h) HLB.out).mono ?_; rintro e w8 ⟨rfl, hs8, hk8⟩; have HS8 := Lib.hid hs8; have HB8 := Lib.hid ((hk8.block b8 (block_lt HB7.out) (fun h => h.2 (.inr rfl))).trans HB7.out); clear hs8 hk8)
              go_roundw
              case rel => exact ⟨t + 8, u + 1, by go_num, by have := HTU.out; omega, HUQ.out, by (rw [secs_succ, flO_app, ← List.append_assoc, ← HTU.out]; exact HS8.out), HB8.out⟩
              case measure => simp [intOf]; omega
            · have t1 : decide ((t : Int) < (E : Int)) = false := by simp; omega
              have t2 : decide (t < E) = false := by simp; omega
              have HUE : Hid (u = Q) := by have := HEQ.out; show u = Q; omega
              clear ht
              go_wp2
              go_quiet (fail)
              go_wp2
              go_roundw
              case rel => exact ⟨j + 1, by omega, by go_num, by (rw [HST.out, flO_app, HQ.out, ← HUE.out]; exact ⟨(HS7.out.keep0 (by (repeat (first | exact Keep.refl _ _ | exact Keep.refl _ _ | refine Keep.drew ?_ | refine Keep.drewN ?_ _ | refine Keep.alloc ?_ _ | refine Keep.setNew ?_ (by omega) _)); done)).1.less (fun _ h => .inl h), (HS7.out.keep0 (by (repeat (first | exact Keep.refl _ _ | exact Keep.refl _ _ | refine Keep.drew ?_ | refine Keep.drewN ?_ _ | refine Keep.alloc ?_ _ | refine Keep.setNew ?_ (by omega) _)); done)).2⟩)⟩
              case measure => simp [intOf]; omega
    · obtain rfl : j = D.length := by omega
      rw [List.take_length] at HS HLA
      obtain ⟨⟨v, h1, h2, h3, -⟩, hk, -⟩ := HS.out
      have d0 := cell1 h2
      have H3 := Lib.hid h3
      have HK := Lib.hid hk
      clear h1 h2 h3 hk
      go_wp2
      go_ret
      exact ⟨v, D, rfl, HI.out, H3.out, Nat.le_trans HLA.out (by decide), HK.out⟩

end Go.Proofs.YtjffdimlbppgcaaGreat
