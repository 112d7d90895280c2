/- Kinds: the pieces, one by one. -/
import Derived.Test.YtnjcchgbkemekaaKF
set_option linter.unusedVariables false
set_option linter.unusedSimpArgs false
namespace Go.Proofs.Ytnjcchgbkemekaa
open Go.RowKit Go.Own

def flO (o : Int) (L : List Bk) : List Bk := L.filter fun y => decide (o ≤ y.o)
/-- What pieces has gathered: the order n3, the row n5; P are blocks that stay. -/
def PcI (w : World) (n3 n5 C : Nat) (P : Nat → Prop) (o : Int) (A : List Bk) : Prop :=
  ∃ v, w.heap[n3]? = some (.cells #[.int .i64 o] 3 (0, 0)) ∧ w.heap[n5]? = some (.cells #[v] 38 (0, 0)) ∧ OwnL bkE w C 49 v A ∧ (∀ x, v.ownBlock = some x → ¬ P x) ∧ C ≤ n3 ∧ C ≤ n5 ∧ ¬ P n3 ∧ ¬ P n5 ∧ (∀ z, P z → z < w.heap.size) ∧ C ≤ w.heap.size
def KP (C : Nat) (P : Nat → Prop) (w w' : World) : Prop := Keep (fun z => C ≤ z ∧ ¬ P z) w w'
theorem PcI.keep0 {w w' : World} {n3 n5 C : Nat} {P : Nat → Prop} {o : Int} {A : List Bk} (h : PcI w n3 n5 C P o A) (K : Keep (fun _ => False) w w') : PcI w' n3 n5 C P o A := by
  obtain ⟨v, h1, h2, h3, h4, h5, h6, h7, h8, h9, h10⟩ := h
  exact ⟨v, (K.block _ (block_lt h1) id).trans h1, (K.block _ (block_lt h2) id).trans h2, h3.keep K (fun _ _ => id), h4, h5, h6, h7, h8, fun z hz => Nat.lt_of_lt_of_le (h9 z hz) K.size, Nat.le_trans h10 K.size⟩

theorem own_conv49 {w : World} {C m : Nat} {v : Value} {cs : List Value} {T : List Bk} (h : w.ownsRow C 49 2 v m cs) (hm : m = T.length) (hc : cs = bkE.cs T) : OwnL bkE w C 49 v T := by
  subst hm; subst hc; exact h
theorem own_ne38 {w w1 : World} {C b : Nat} {v : Value} {T : List Bk} {c : Array Value} (h : OwnL bkE w1 C 49 v T) (K : Keep (fun _ => False) w w1) (hb : w.heap[b]? = some (.cells c 38 (0, 0))) : ¬ v.ownBlock = some b := fun e => by
  obtain ⟨c, hc⟩ := own_typ h e
  exact typ_ne ((K.block b (block_lt hb) id).trans hb) hc (by decide) rfl

theorem own_net {w : World} {C b e : Nat} {v : Value} {T : List Bk} {c : Array Value} (h : OwnL bkE w C 49 v T) (hb : w.heap[b]? = some (.cells c e (0, 0))) (he : e ≠ 49) : ¬ v.ownBlock = some b := fun e => by
  obtain ⟨c, hc⟩ := own_typ h e
  exact typ_ne hb hc he rfl
theorem pc_close {w w1 : World} {n3 n5 C : Nat} {P : Nat → Prop} {o : Int} {A A' : List Bk} {v v' : Value} (h1 : w.heap[n3]? = some (.cells #[.int .i64 o] 3 (0, 0))) (h2 : w.heap[n5]? = some (.cells #[v] 38 (0, 0))) (h3 : OwnL bkE w C 49 v A)
    (h4 : ∀ x, v.ownBlock = some x → ¬ P x) (h5 : C ≤ n3) (h6 : C ≤ n5) (h7 : ¬ P n3) (h8 : ¬ P n5) (h9 : ∀ z, P z → z < w.heap.size) (h10 : C ≤ w.heap.size)
    (K : Keep (fun z => v.ownBlock = some z) w w1) (ho : OwnL bkE w1 C 49 v' A') (hv : ∀ x, v'.ownBlock = some x → v.ownBlock = some x ∨ w.heap.size ≤ x) :
    PcI (w1.setCell ⟨n5, 0, none⟩ v') n3 n5 C P o A' ∧ KP C P w (w1.setCell ⟨n5, 0, none⟩ v') := by
  have e3 := own_net h3 h1 (by decide)
  have e5 := own_net h3 h2 (by decide)
  have KS : Keep (fun z => z = n5) w1 (w1.setCell ⟨n5, 0, none⟩ v') := (Keep.refl (fun z => z = n5) w1).setCell (p := ⟨n5, 0, none⟩) (fun _ => rfl) v'
  have b5 := (K.block n5 (block_lt h2) e5).trans h2
  refine ⟨⟨v', ?_, ?_, ho.keep KS ?_, fun x hx hp => ?_, h5, h6, h7, h8, fun z hz => Nat.lt_of_lt_of_le (h9 z hz) (Nat.le_trans K.size KS.size), Nat.le_trans h10 (Nat.le_trans K.size KS.size)⟩, ?_⟩
  · rw [heap_setCell_ne (typ_ne h1 h2 (by decide))]
    exact (K.block n3 (block_lt h1) e3).trans h1
  · rw [heap_setCell_eq b5]; simp
  · intro x hx e
    subst e
    rcases hv x hx with h | h
    · exact e5 h
    · have := block_lt h2; omega
  · rcases hv x hx with h | h
    · exact h4 x h hp
    · have := h9 x hp; omega
  · exact (K.mono fun z _ hz => ⟨(h3.lt z hz).1, h4 z hz⟩).setCell (fun _ => ⟨h6, h8⟩) _

set_option maxRecDepth 100000 in
set_option maxHeartbeats 2000000 in
theorem put_pc {w : World} {n3 n5 C : Nat} {P : Nat → Prop} {o : Int} {A : List Bk} (y : Bk) (h : PcI w n3 n5 C P o A) (hl : A.length ≤ 1000000) :
    Calls Try.prog 47 #[.agg #[.int .i64 y.f, .int .i64 y.o], .pointer (some ⟨n3, 0, none⟩), .pointer (some ⟨n5, 0, none⟩)] w fun e w' => e = .returned (.tuple #[]) ∧ PcI w' n3 n5 C P o (A ++ flO o [y]) ∧ KP C P w w' := by
  obtain ⟨yf, yo⟩ := y
  have HPC := Lib.hid h
  obtain ⟨v, h1, h2, h3, h4, h5, h6, h7, h8, h9, h10⟩ := h
  have HBX : Hid ((w.alloc (.cells #[.int .i64 yf, .int .i64 yo] 49)).heap[w.heap.size]? = some (.cells #[.int .i64 yf, .int .i64 yo] 49 (0, 0))) := heap_alloc_new w _
  have HK1 : Hid (Keep (fun _ => False) w (w.alloc (.cells #[.int .i64 yf, .int .i64 yo] 49))) := (Keep.refl _ _).alloc _
  have g1 := (HK1.out.block _ (block_lt h1) id).trans h1
  have g2 := (HK1.out.block _ (block_lt h2) id).trans h2
  have g3 := h3.keep HK1.out (fun _ _ => id)
  have hsz : (w.alloc (.cells #[.int .i64 yf, .int .i64 yo] 49)).heap.size = w.heap.size + 1 := World.size_alloc _ _
  by_cases hc : o ≤ yo
  · have t0 : decide (o ≤ yo) = true := decide_eq_true hc
    have HFL : Hid (flO o [⟨yf, yo⟩] = [⟨yf, yo⟩]) := by unfold Hid flO; simp [hc]
    have H2 := Lib.hid h2
    have H4 := Lib.hid (And.intro h4 (And.intro h9 h10))
    have HCL := Lib.hid (fun (w1 : World) (v' : Value) (A' : List Bk) => pc_close (w1 := w1) (v' := v') (A' := A') h1 h2 h3 h4 h5 h6 h7 h8 h9 h10)
    obtain ⟨b0, b1⟩ := cell2b HBX.out
    have d0 := cell1 g1
    have d1 := cell1 g2
    have fz : (w.alloc (.cells #[.int .i64 yf, .int .i64 yo] 49)).frozen? ⟨n5, 0, none⟩ = false := frozen_block g2
    have HG3 := Lib.hid g3
    have HKA0 := HK1
    have HKA : Hid (Keep (fun _ => False) w ((w.alloc (.cells #[.int .i64 yf, .int .i64 yo] 49)).alloc (.cells #[.int .i64 yf, .int .i64 yo] 49))) := HK1.out.alloc _
    clear hc h1 h2 h3 h4 h5 h6 h7 h8 h9 g1 g2 g3
    go_enter Try.func47, Try.ntmps47
    have hnew : ((w.alloc (.cells #[.int .i64 yf, .int .i64 yo] 49)).alloc (.cells #[.int .i64 yf, .int .i64 yo] 49)).heap[w.heap.size + 1]? = some (.cells #[.int .i64 yf, .int .i64 yo] 49 (0, 0)) := by
      have h := heap_alloc_new (w.alloc (.cells #[.int .i64 yf, .int .i64 yo] 49)) (.cells #[.int .i64 yf, .int .i64 yo] 49)
      rw [hsz] at h; exact h
    have HNEW := Lib.hid hnew
    have hsz2 : ((w.alloc (.cells #[.int .i64 yf, .int .i64 yo] 49)).alloc (.cells #[.int .i64 yf, .int .i64 yo] 49)).heap.size = w.heap.size + 2 := by rw [World.size_alloc, hsz]
    have HCS : Hid (C ≤ ((w.alloc (.cells #[.int .i64 yf, .int .i64 yo] 49)).alloc (.cells #[.int .i64 yf, .int .i64 yo] 49)).heap.size) := by show C ≤ _; rw [hsz2]; have := H4.out.2.2; omega
    have HSZ2 := Lib.hid hsz2
    clear hnew hsz hsz2
    go_wp2_with (at_builtin; go_loud (refine wpl_appF et43 rfl (.tmp 8) (.tmp 10) rfl C v A.length (bkE.cs A) (by rfl) ((HG3.out.keep (S := fun _ => False) ((Keep.refl _ _).alloc _) (fun _ _ => id))) ⟨w.heap.size + 1, 0, none⟩ 1 1 [.int .i64 yf, .int .i64 yo] (by rfl) rfl (new_cells HNEW.out) (by simp [Value.oneCell']) (by unfold maxLen; omega) (by omega) HCS.out ?_; intro v1 w1 ho1 hg1 hv1; obtain ⟨a1, l1, c1, rfl⟩ := own_slice ho1; have HK2 : Hid (Keep (fun z => v.ownBlock = some z) w w1) := Keep.grown (HKA.out.mono (fun _ _ h => h.elim)) hg1 (fun x h1 h2 => h1); have HO1 : Hid (OwnL bkE w1 C 49 (.slice a1 l1 c1) (A ++ [⟨yf, yo⟩])) := own_conv49 ho1 (by simp) (by rw [bkE.cs_append, bkE.cs_one]; rfl); have HV1 : Hid (∀ x, (Value.slice a1 l1 c1).ownBlock = some x → v.ownBlock = some x ∨ w.heap.size ≤ x) := fun x hx => (hv1 x hx).imp id (fun h => by rw [HSZ2.out] at h; omega); have e1 : w1.cell? ⟨n5, 0, none⟩ = some v := (HK2.out.cell (block_lt H2.out) (own_ne38 HG3.out HKA0.out H2.out)).trans (cell1 H2.out); have fz1 : w1.frozen? ⟨n5, 0, none⟩ = false := (HK2.out.frozen (block_lt H2.out) (own_ne38 HG3.out HKA0.out H2.out)).trans (frozen_block H2.out); clear ho1 hg1 hv1 d0 d1 b0 b1 fz))
    have hcl := HCL.out w1 (.slice a1 l1 c1) (A ++ [⟨yf, yo⟩]) HK2.out HO1.out HV1.out
    go_end0
    exact ⟨rfl, by rw [HFL.out]; exact hcl.1, hcl.2⟩
  · have t0 : decide (o ≤ yo) = false := decide_eq_false hc
    have HFL : Hid (flO o [⟨yf, yo⟩] = []) := by unfold Hid flO; simp [hc]
    obtain ⟨b0, b1⟩ := cell2b HBX.out
    have d0 := cell1 g1
    clear h1 h2 h3 h4 h5 h6 h7 h8 h9 g1 g2 g3 hc
    go_enter Try.func47, Try.ntmps47
    go_wp2
    go_end0
    exact ⟨rfl, by rw [HFL.out, List.append_nil]; exact HPC.out.keep0 HK1.out, HK1.out.mono (fun _ _ h => h.elim)⟩

end Go.Proofs.Ytnjcchgbkemekaa
