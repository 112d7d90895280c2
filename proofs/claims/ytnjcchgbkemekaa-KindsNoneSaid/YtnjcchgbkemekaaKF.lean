/- Kinds: best. -/
import Derived.Test.YtnjcchgbkemekaaKE
set_option linter.unusedVariables false
set_option linter.unusedSimpArgs false
namespace Go.Proofs.Ytnjcchgbkemekaa
open Go.RowKit Go.Own

theorem set2 {w : World} {b e : Nat} {x y u v : Value} (h : w.heap[b]? = some (.cells #[x, y] e (0, 0))) : ((w.setCell ⟨b, 0, none⟩ u).setCell ⟨b, 1, none⟩ v).heap[b]? = some (.cells #[u, v] e (0, 0)) := by
  have h2 := heap_setCell_eq (i := 0) (u := u) h
  have h3 := heap_setCell_eq (i := 1) (u := v) h2
  simpa using h3
theorem set2_ne {w : World} {b c : Nat} {u v : Value} (h : c ≠ b) : ((w.setCell ⟨b, 0, none⟩ u).setCell ⟨b, 1, none⟩ v).heap[c]? = w.heap[c]? := by
  rw [heap_setCell_ne (by simpa using h), heap_setCell_ne (by simpa using h)]
/-- A piece that may be looked at. -/
def okP (n : Nat) (y : Bk) : Prop := ∃ a o : Nat, y = ⟨(a : Int), (o : Int)⟩ ∧ a < n ∧ o ≤ 8
def fb (z : Option Bk) : Bk := z.getD ⟨0, 0⟩
theorem bst_take {M : Nat → Int} {x : Int} {g : Bool} {L : List Bk} {j : Nat} (hj : j < L.length) : (L.take (j + 1)).foldl (bst1 M x g) none = bst1 M x g ((L.take j).foldl (bst1 M x g) none) L[j] := by
  rw [List.take_succ_eq_append_getElem hj, List.foldl_append]; rfl
theorem bst1_no {M : Nat → Int} {x : Int} {g : Bool} {z : Option Bk} {a o : Nat} (h : ¬ M (a / 8) = x) : bst1 M x g z ⟨(a : Int), (o : Int)⟩ = z := by
  unfold bst1; rw [if_neg (by simpa using h)]
theorem bst1_none {M : Nat → Int} {x : Int} {g : Bool} {a o : Nat} (h : M (a / 8) = x) : bst1 M x g none ⟨(a : Int), (o : Int)⟩ = some ⟨(a : Int), (o : Int)⟩ := by
  unfold bst1; rw [if_pos (by simpa using h)]
theorem bst1_some {M : Nat → Int} {x : Int} {g : Bool} {u : Bk} {a o : Nat} (h : M (a / 8) = x) : bst1 M x g (some u) ⟨(a : Int), (o : Int)⟩ = if (g = true ∧ u.o < (o : Int)) ∨ (g = false ∧ (o : Int) < u.o) then some ⟨(a : Int), (o : Int)⟩ else some u := by
  unfold bst1; rw [if_pos (by simpa using h)]
/-- What best answers. -/
def BestC (M : Nat → Int) (x : Int) (g : Bool) (L : List Bk) (w : World) (e : Ending) (w' : World) : Prop :=
  e = .returned (.tuple #[.agg #[.int .i64 (fb (bst M x g L)).f, .int .i64 (fb (bst M x g L)).o], .bool (bst M x g L).isSome]) ∧ Keep (fun _ => False) w w'
/-- The state behind j pieces. -/
def BeJ (M : Nat → Int) (x : Int) (g : Bool) (L : List Bk) (w wr : World) (n8 n10 j : Nat) (fd : Bool) : Prop :=
  ∃ z : Option Bk, z = (L.take j).foldl (bst1 M x g) none ∧ fd = z.isSome ∧ wr.heap[n10]? = some (.cells #[.int .i64 (fb z).f, .int .i64 (fb z).o] 49 (0, 0)) ∧ wr.heap[n8]? = some (.cells #[.int .i64 0, .int .i64 0] 49 (0, 0)) ∧ Keep (fun _ => False) w wr

set_option maxRecDepth 100000 in
set_option maxHeartbeats 4000000 in
theorem best_any {w : World} {B C k b kr n : Nat} {F : Nat → Bool} {M : Nat → Int} {N : Nat → Prop} (v : Value) (L : List Bk) (x : Int) (g : Bool) (h : KO w B k b kr n F M N) (hv : OwnL bkE w C 49 v L) (hL : ∀ y, y ∈ L → okP n y) (hl : L.length ≤ 1000000) :
    Calls Try.prog 34 #[.pointer (some ⟨k, 0, none⟩), v, .int .i64 x, .bool g] w (BestC M x g L w) := by
  obtain ⟨av, cv, rfl, hag⟩ := hv.slice
  have HV := Lib.hid hv
  have HO := Lib.hid h
  have HL := Lib.hid hL
  have HAG := Lib.hid hag
  have h8 := heap_alloc_new w (.cells #[.int .i64 0, .int .i64 0] 49)
  have h10 := heap_alloc_new (w.alloc (.cells #[.int .i64 0, .int .i64 0] 49)) (.cells #[.int .i64 0, .int .i64 0] 49)
  have h8' : ((w.alloc (.cells #[.int .i64 0, .int .i64 0] 49)).alloc (.cells #[.int .i64 0, .int .i64 0] 49)).heap[w.heap.size]? = some (.cells #[.int .i64 0, .int .i64 0] 49 (0, 0)) := by
    rw [heap_alloc_at, if_neg (by simp)]; exact h8
  have HI0 : Hid (BeJ M x g L w ((w.alloc (.cells #[.int .i64 0, .int .i64 0] 49)).alloc (.cells #[.int .i64 0, .int .i64 0] 49)) w.heap.size (w.heap.size + 1) 0 false) := ⟨none, rfl, rfl, by rw [World.size_alloc] at h10; exact h10, h8', ((Keep.refl _ _).alloc _).alloc _⟩
  clear hv h hL hag h8 h10 h8'
  go_enter Try.func34, Try.ntmps34
  go_wp2
  generalize (w.alloc (.cells #[.int .i64 0, .int .i64 0] 49)).alloc (.cells #[.int .i64 0, .int .i64 0] 49) = w1 at HI0 ⊢
  obtain ⟨n8, hn8⟩ : ∃ n8, w.heap.size = n8 := ⟨_, rfl⟩
  rw [hn8] at HI0
  try rw [hn8]
  obtain ⟨n10, hn10⟩ : ∃ n10, n8 + 1 = n10 := ⟨_, rfl⟩
  rw [hn10] at HI0
  try rw [hn10]
  have HN := Lib.hid (And.intro hn8 hn10)
  clear hn8 hn10
  go_loopw [11, 19] (fun fd i wr => ∃ (j : Nat) (fb' : Bool), j ≤ L.length ∧ i = .int .i64 (j : Int) ∧ fd = .bool fb' ∧ BeJ M x g L w wr n8 n10 j fb') (fun _ i _ => L.length - (intOf i).toNat)
  case atStart => exact ⟨0, false, by omega, rfl, rfl, HI0.out⟩
  case round =>
    obtain ⟨j, fd, hj, rfl, rfl, z, hz, rfl, hb10, hb8, hk⟩ := hrel
    have HZ := Lib.hid hz
    have H10 := Lib.hid hb10
    have H8 := Lib.hid hb8
    have HK := Lib.hid hk
    clear hz hb10 hb8 hk HI0
    by_cases hjl : j < L.length
    · obtain ⟨g0, rfl⟩ := HAG.out (by intro e; rw [e] at hjl; simp at hjl)
      obtain ⟨c0, c1⟩ := bk_cells (HV.out.keep HK.out (fun _ _ => id)) hjl
      obtain ⟨a, o, hy, han, ho8⟩ := HL.out _ (List.getElem_mem hjl)
      have hstep := bst_take (M := M) (x := x) (g := g) hjl
      rw [← HZ.out, hy] at hstep
      rw [hy] at c0 c1
      simp only at c0 c1
      have HKI : Hid (∀ W, Keep (fun _ => False) wr W → Calls Try.prog 17 #[.pointer (some ⟨k, 0, none⟩), .int .i64 (a : Int)] W fun e w' => e = .returned (.int .i64 (M (a / 8))) ∧ w' = W) := fun W K => kind_in (HO.out.keep0 (HK.out.trans K)) han
      have j0 : (0 : Int) ≤ j := by omega
      have j1 : (j : Int) < L.length := by omega
      have HBX : Hid ((wr.alloc (.cells #[.int .i64 (a : Int), .int .i64 (o : Int)] 49)).heap[wr.heap.size]? = some (.cells #[.int .i64 (a : Int), .int .i64 (o : Int)] 49 (0, 0))) := heap_alloc_new wr _
      have HKA : Hid (Keep (fun _ => False) wr (wr.alloc (.cells #[.int .i64 (a : Int), .int .i64 (o : Int)] 49))) := (Keep.refl _ _).alloc _
      obtain ⟨b0, b1⟩ := cell2b HBX.out
      have hd10 := (HKA.out.block n10 (block_lt H10.out) id).trans H10.out
      have HD10 := Lib.hid hd10
      have HD8 := Lib.hid ((HKA.out.block n8 (block_lt H8.out) id).trans H8.out)
      obtain ⟨d0, d1⟩ := cell2b hd10
      have f0 : (wr.alloc (.cells #[.int .i64 (a : Int), .int .i64 (o : Int)] 49)).frozen? ⟨n10, 0, none⟩ = false := frozen_block hd10
      have f1 : (wr.alloc (.cells #[.int .i64 (a : Int), .int .i64 (o : Int)] 49)).frozen? ⟨n10, 1, none⟩ = false := frozen_block hd10
      have hne : wr.heap.size ≠ n10 := by have := block_lt H10.out; omega
      have hne' : n10 ≠ wr.heap.size := fun e => hne e.symm
      have HN8 : Hid (n8 ≠ n10) := by have := HN.out.2; show n8 ≠ n10; omega
      have HN10 : Hid (w.heap.size ≤ n10) := by have := HN.out.1; have := HN.out.2; show _ ≤ _; omega
      clear hd10 hy
      by_cases hm : M (a / 8) = x
      · have t0 : (M (a / 8) != x) = false := by simp [hm]
        cases z with
        | none =>
          rw [bst1_none hm] at hstep
          have HST := Lib.hid hstep
          clear hstep hm
          simp only [Option.isSome_none]
          go_wp2_with (go_at_call 17; refine (HKI.out _ (by (repeat (first | exact HKA.out | exact Keep.refl _ _ | refine Keep.drew ?_ | refine Keep.drewN ?_ _ | refine Keep.alloc ?_ _ | refine Keep.setNew ?_ (by omega) _)); done)).mono ?_; rintro e w2 ⟨rfl, rfl⟩)
          exact ⟨⟨j + 1, true, by omega, by go_num, rfl, some ⟨a, o⟩, HST.out.symm, rfl, set2 HD10.out, (set2_ne HN8.out).trans HD8.out, ((HK.out.trans HKA.out).setNew HN10.out _).setNew HN10.out _⟩, by simp [intOf]; omega⟩
        | some u =>
          simp only [fb, Option.getD_some] at d0 d1
          rw [bst1_some hm] at hstep
          simp only [Option.isSome_some]
          cases g with
          | true =>
            by_cases hc : u.o < (o : Int)
            · rw [if_pos (.inl ⟨rfl, hc⟩)] at hstep
              have t1 : decide (u.o < (o : Int)) = true := decide_eq_true hc
              have HST := Lib.hid hstep
              clear hstep hm hc
              go_wp2_with (go_at_call 17; refine (HKI.out _ (by (repeat (first | exact HKA.out | exact Keep.refl _ _ | refine Keep.drew ?_ | refine Keep.drewN ?_ _ | refine Keep.alloc ?_ _ | refine Keep.setNew ?_ (by omega) _)); done)).mono ?_; rintro e w2 ⟨rfl, rfl⟩)
              exact ⟨⟨j + 1, true, by omega, by go_num, rfl, some ⟨a, o⟩, HST.out.symm, rfl, set2 HD10.out, (set2_ne HN8.out).trans HD8.out, ((HK.out.trans HKA.out).setNew HN10.out _).setNew HN10.out _⟩, by simp [intOf]; omega⟩
            · rw [if_neg (by simp; omega)] at hstep
              have t1 : decide (u.o < (o : Int)) = false := decide_eq_false hc
              have HST := Lib.hid hstep
              clear hstep hm hc
              go_wp2_with (go_at_call 17; refine (HKI.out _ (by (repeat (first | exact HKA.out | exact Keep.refl _ _ | refine Keep.drew ?_ | refine Keep.drewN ?_ _ | refine Keep.alloc ?_ _ | refine Keep.setNew ?_ (by omega) _)); done)).mono ?_; rintro e w2 ⟨rfl, rfl⟩)
              exact ⟨⟨j + 1, true, by omega, by go_num, rfl, some u, HST.out.symm, rfl, HD10.out, HD8.out, HK.out.trans HKA.out⟩, by simp [intOf]; omega⟩
          | false =>
            by_cases hc : (o : Int) < u.o
            · rw [if_pos (.inr ⟨rfl, hc⟩)] at hstep
              have t1 : decide ((o : Int) < u.o) = true := decide_eq_true hc
              have HST := Lib.hid hstep
              clear hstep hm hc
              go_wp2_with (go_at_call 17; refine (HKI.out _ (by (repeat (first | exact HKA.out | exact Keep.refl _ _ | refine Keep.drew ?_ | refine Keep.drewN ?_ _ | refine Keep.alloc ?_ _ | refine Keep.setNew ?_ (by omega) _)); done)).mono ?_; rintro e w2 ⟨rfl, rfl⟩)
              exact ⟨⟨j + 1, true, by omega, by go_num, rfl, some ⟨a, o⟩, HST.out.symm, rfl, set2 HD10.out, (set2_ne HN8.out).trans HD8.out, ((HK.out.trans HKA.out).setNew HN10.out _).setNew HN10.out _⟩, by simp [intOf]; omega⟩
            · rw [if_neg (by simp; omega)] at hstep
              have t1 : decide ((o : Int) < u.o) = false := decide_eq_false hc
              have HST := Lib.hid hstep
              clear hstep hm hc
              go_wp2_with (go_at_call 17; refine (HKI.out _ (by (repeat (first | exact HKA.out | exact Keep.refl _ _ | refine Keep.drew ?_ | refine Keep.drewN ?_ _ | refine Keep.alloc ?_ _ | refine Keep.setNew ?_ (by omega) _)); done)).mono ?_; rintro e w2 ⟨rfl, rfl⟩)
              exact ⟨⟨j + 1, true, by omega, by go_num, rfl, some u, HST.out.symm, rfl, HD10.out, HD8.out, HK.out.trans HKA.out⟩, by simp [intOf]; omega⟩
      · have t0 : (M (a / 8) != x) = true := by simp [hm]
        rw [bst1_no hm] at hstep
        have HST := Lib.hid hstep
        clear hstep hm
        go_wp2_with (go_at_call 17; refine (HKI.out _ (by (repeat (first | exact HKA.out | exact Keep.refl _ _ | refine Keep.drew ?_ | refine Keep.drewN ?_ _ | refine Keep.alloc ?_ _ | refine Keep.setNew ?_ (by omega) _)); done)).mono ?_; rintro e w2 ⟨rfl, rfl⟩)
        go_roundw
        case rel => exact ⟨j + 1, z.isSome, by omega, by go_num, rfl, z, HST.out.symm, rfl, HD10.out, HD8.out, HK.out.trans HKA.out⟩
        case measure => simp [intOf]; omega
    · obtain rfl : j = L.length := by omega
      rw [List.take_length] at HZ
      obtain ⟨d0, d1⟩ := cell2b H10.out
      obtain ⟨x0, x1⟩ := cell2b H8.out
      have f0 : wr.frozen? ⟨n8, 0, none⟩ = false := frozen_block H8.out
      have f1 : wr.frozen? ⟨n8, 1, none⟩ = false := frozen_block H8.out
      go_wp2
      obtain ⟨q1, q2⟩ := cell2b (set2 (u := .int .i64 (fb z).f) (v := .int .i64 (fb z).o) H8.out)
      refine bodyPost_ret (v := .tuple #[.agg #[.int .i64 (fb z).f, .int .i64 (fb z).o], .bool z.isSome]) (by simp [results, Try.results34, go_sem, q1, q2]) rfl ⟨?_, (HK.out.setNew (Nat.le_of_eq HN.out.1) _).setNew (Nat.le_of_eq HN.out.1) _⟩
      have e : bst M x g L = z := HZ.out.symm
      rw [e]

end Go.Proofs.Ytnjcchgbkemekaa
