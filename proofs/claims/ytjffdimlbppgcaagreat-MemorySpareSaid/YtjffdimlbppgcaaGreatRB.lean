/- Memory: the program's bytes: Store, Zero. -/
import Derived.Test.YtjffdimlbppgcaaGreatRA
import Derived.Deep.OwnRows
set_option linter.unusedVariables false
set_option linter.unusedSimpArgs false
namespace Go.Proofs.YtjffdimlbppgcaaGreat
open Go.RowKit Go.Own

def setW (Wd : Nat → Nat) (i v : Nat) : Nat → Nat := fun k => if k = i then v else Wd k
/-- j bytes of v are laid from z on. -/
def laidV (Wd : Nat → Nat) (z v j : Nat) : Nat → Value := fun k => if z ≤ k ∧ k < z + j then .int .u8 ((byt v (k - z) : Nat) : Int) else byV Wd k
theorem laidV_zero (Wd : Nat → Nat) (z v : Nat) : laidV Wd z v 0 = byV Wd := by
  funext k
  unfold laidV
  rw [if_neg (by omega)]
theorem laidV_step (Wd : Nat → Nat) (z v j k : Nat) : (if k = z + j then .int .u8 ((byt v j : Nat) : Int) else laidV Wd z v j k) = laidV Wd z v (j + 1) k := by
  unfold laidV
  by_cases e : k = z + j
  · subst e
    rw [if_pos rfl, if_pos (by omega), Nat.add_sub_cancel_left]
  · rw [if_neg e]
    by_cases h : z ≤ k ∧ k < z + j
    · rw [if_pos h, if_pos (by omega)]
    · rw [if_neg h, if_neg (by omega)]
theorem laidV_all (Wd : Nat → Nat) (i v k : Nat) : laidV Wd (8 * i) v 8 k = byV (setW Wd i v) k := by
  unfold laidV byV setW
  by_cases h : 8 * i ≤ k ∧ k < 8 * i + 8
  · rw [if_pos h, if_pos (by omega), show k - 8 * i = k % 8 by omega]
  · rw [if_neg h, if_neg (by omega)]
theorem laid_done {w : World} {b L z v j : Nat} {Wd : Nat → Nat} (h : MetV w b 5 L (laidV Wd z v j)) (x : Int) (hx : x = ((byt v j : Nat) : Int)) : MetV (w.setCell ⟨b, z + j, none⟩ (.int .u8 x)).drew b 5 L (laidV Wd z v (j + 1)) := by
  subst hx
  exact (h.set (i := z + j) (.int .u8 ((byt v j : Nat) : Int))).congr fun k _ => laidV_step Wd z v j k
theorem laid_keep {w w' : World} {b i : Nat} {x : Value} (h : Keep (fun z => z = b) w w') : Keep (fun z => z = b) w (w'.setCell ⟨b, i, none⟩ x).drew := (h.setCell (fun _ => rfl) _).drew
theorem RA.laid {w w' : World} {r b n i v : Nat} {Wd : Nat → Nat} (h : RA w r b n Wd) (hm : MetV w' b 5 (64 * n) (byV (setW Wd i v))) (k : Keep (fun z => z = b) w w') (hn : r ≠ b) (hv : v < 18446744073709551616) : RA w' r b n (setW Wd i v) :=
  ⟨(k.block r (block_lt h.hr) hn).trans h.hr, hm, h.n8, fun j hj => by unfold setW; split; exact hv; exact h.lt j hj⟩
set_option maxRecDepth 100000 in
set_option maxHeartbeats 4000000 in
theorem store_ok {w : World} {r b n i v : Nat} {Wd : Nat → Nat} (h : RA w r b n Wd) (hi : i < 8 * n) (hv : v < 18446744073709551616) : Calls Tryz.prog 53 #[.pointer (some ⟨r, 0, none⟩), .int .i64 ((8 * i : Nat) : Int), .int .u64 (v : Int)] w fun e w' => e = .returned (.int .i64 0) ∧ RA w' r b n (setW Wd i v) ∧ Keep (fun z => z = b) w w' := by
  have HR := Lib.hid h
  have HW : Hid (Calls Tryz.prog 36 #[.pointer (some ⟨r, 0, none⟩), .int .i64 ((8 * i : Nat) : Int), .int .i64 8] w fun e w' => e = .returned (.int .i64 0) ∧ w' = w) := wrong_ok h hi
  have HNE : Hid (r ≠ b) := by obtain ⟨c, hc⟩ := h.mb.typ; exact typ_ne h.hr hc (by decide)
  have hzL : 8 * i + 8 ≤ 64 * n := by omega
  have hn := h.n8.2
  have HI := Lib.hid hi
  obtain ⟨L, hL⟩ : ∃ L, 64 * n = L := ⟨_, rfl⟩
  have HL := Lib.hid hL
  rw [hL] at hzL
  obtain ⟨z, hz⟩ : ∃ z, 8 * i = z := ⟨_, rfl⟩
  have HZ := Lib.hid hz
  rw [hz] at HW hzL ⊢
  have hL2 : L ≤ 65536 := by omega
  have HMB : Hid (MetV w b 5 L (byV Wd)) := by have := h.mb; rw [hL] at this; exact this
  have HC0 : Hid (w.cell? ⟨r, 0, none⟩ = some (.slice (some ⟨b, 0, none⟩) L L)) := by have := h.c0; rw [hL] at this; exact this
  clear h hi hL hz hn
  go_enter Tryz.func53, Tryz.ntmps53
  go_wp2_with (go_at_call 36; refine HW.out.mono ?_; rintro e w1 ⟨rfl, rfl⟩)
  go_loopw [15] (fun i wr => ∃ j : Nat, j ≤ 8 ∧ i = .int .i64 (j : Int) ∧ MetV wr b 5 L (laidV Wd z v j) ∧ Keep (fun z => z = b) w1 wr) (fun i _ => 8 - (intOf i).toNat)
  case atStart => exact ⟨0, by omega, rfl, by rw [laidV_zero]; exact HMB.out, Keep.refl _ _⟩
  case round =>
    obtain ⟨j, hj, rfl, hm, hk⟩ := hrel
    have HM := Lib.hid hm
    have HK := Lib.hid hk
    have c0 := (HK.out.cell (block_lt_cell HC0.out) HNE.out).trans HC0.out
    clear hm hk
    by_cases hlt : j < 8
    · have hc := HM.out.cell (i := z + j) (by omega)
      have hf := HM.out.frozen (z + j)
      have HSTEP : Hid (∀ k, (if k = z + j then .int .u8 ((byt v j : Nat) : Int) else laidV Wd z v j k) = laidV Wd z v (j + 1) k) := laidV_step Wd z v j
      obtain ⟨u, hu⟩ : ∃ u, laidV Wd z v j (z + j) = u := ⟨_, rfl⟩
      rw [hu] at hc
      have hby : ∃ y, byt v j = y := ⟨_, rfl⟩
      clear hu
      rcases cases8 hlt with rfl | rfl | rfl | rfl | rfl | rfl | rfl | rfl
      all_goals
        try simp only [Nat.add_zero] at hc hf
        go_wp2
        go_region
        go_wp2
        go_roundw
        case rel =>
          first
            | exact ⟨1, by omega, rfl, laid_done (j := 0) HM.out _ (by unfold byt; simp only [Nat.reducePow]; omega), laid_keep HK.out⟩
            | exact ⟨2, by omega, rfl, laid_done (j := 1) HM.out _ (by unfold byt; simp only [Nat.reducePow]; omega), laid_keep HK.out⟩
            | exact ⟨3, by omega, rfl, laid_done (j := 2) HM.out _ (by unfold byt; simp only [Nat.reducePow]; omega), laid_keep HK.out⟩
            | exact ⟨4, by omega, rfl, laid_done (j := 3) HM.out _ (by unfold byt; simp only [Nat.reducePow]; omega), laid_keep HK.out⟩
            | exact ⟨5, by omega, rfl, laid_done (j := 4) HM.out _ (by unfold byt; simp only [Nat.reducePow]; omega), laid_keep HK.out⟩
            | exact ⟨6, by omega, rfl, laid_done (j := 5) HM.out _ (by unfold byt; simp only [Nat.reducePow]; omega), laid_keep HK.out⟩
            | exact ⟨7, by omega, rfl, laid_done (j := 6) HM.out _ (by unfold byt; simp only [Nat.reducePow]; omega), laid_keep HK.out⟩
            | exact ⟨8, by omega, rfl, laid_done (j := 7) HM.out _ (by unfold byt; simp only [Nat.reducePow]; omega), laid_keep HK.out⟩
        case measure => simp [intOf]
    · obtain rfl : j = 8 := by omega
      go_wp2
      go_ret
      refine ⟨rfl, HR.out.laid ?_ HK.out HNE.out hv, HK.out⟩
      have h := HM.out
      rw [← HZ.out, ← HL.out] at h
      exact h.congr fun k _ => laidV_all Wd i v k

theorem MetV.zap {q e n : Nat} (x : Value) : ∀ (m o : Nat) (w : World) (V : Nat → Value), MetV w q e n V → MetV (w.setCells q o (List.replicate m x)) q e n (fun j => if o ≤ j ∧ j < o + m then x else V j)
  | 0, o, w, V, h => h.congr fun i _ => by rw [if_neg (by omega)]
  | m + 1, o, w, V, h => by
    have h2 := MetV.zap x m (o + 1) (w.setCell ⟨q, o, none⟩ x) _ (h.set (i := o) x)
    refine h2.congr fun i _ => ?_
    by_cases e1 : i = o
    · subst e1
      rw [if_neg (by omega), if_pos rfl, if_pos (by omega)]
    · by_cases e2 : o + 1 ≤ i ∧ i < o + 1 + m
      · rw [if_pos e2, if_pos (by omega)]
      · rw [if_neg e2, if_neg e1, if_neg (by omega)]
theorem keep_zap {q : Nat} : ∀ (vs : List Value) (o : Nat) (w : World), Keep (fun z => z = q) w (w.setCells q o vs)
  | [], o, w => Keep.refl _ _
  | v :: vs, o, w => Keep.trans ((Keep.refl (fun z => z = q) w).setCell (p := ⟨q, o, none⟩) (fun _ => rfl) v) (keep_zap vs (o + 1) _)

/-- The words of m frames from f on are 0. -/
def zerW (Wd : Nat → Nat) (f m : Nat) : Nat → Nat := fun k => if 8 * f ≤ k ∧ k < 8 * (f + m) then 0 else Wd k
theorem et75 : ET Tryz.prog 75 5 (.int .u8 0) 1 1 := ⟨Tryz.underlying75, by kernel_rfl, rfl, by decide⟩
theorem run_slice_u8 (W : World) (b L a d : Nat) (h1 : a < d) (h2 : d ≤ L) : (Instr.slice 75 (.slice (some ⟨b, 0, none⟩) L L) (some (.int .i64 (a : Int))) (some (.int .i64 (d : Int))) none).run Tryz.prog W = .ok (.slice (some ⟨b, a, none⟩) (d - a) (L - a)) W := by
  obtain ⟨e1, e2⟩ := et75.elem
  have hu : Tryz.prog.underlying 75 = some (.slice (Tryz.prog.elem 75)) := by rw [e1]; exact et75.ht
  rw [run_slice_lh W 75 _ _ _ hu .i64 .i64 _ _ (by omega) (by omega) (by omega), e1, e2]
  simp only [sliced, Result.andThen, Int.toNat_natCast, Nat.mul_one]
  rw [if_neg (by omega)]
  simp [Addr.add]
  try omega
theorem make75 (L : Nat) (h : L ≤ 100000) (w : World) : (Instr.makeSlice 75 (.int .i64 (L : Int)) (.int .i64 (L : Int))).run Tryz.prog w = .ok (.slice (some ⟨w.heap.size, 0, none⟩) L L) (w.alloc (.cells (Array.replicate L (.int .u8 0)) 5)) := by
  rw [run_make_row' 75 5 (.int .u8 0) 1 Tryz.underlying75 (by kernel_rfl) rfl .i64 .i64 L (by omega) (by omega)]
  have e : madeCells #[Value.int .u8 0] L = Array.replicate L (.int .u8 0) := by
    rw [← List.toArray_replicate, ← toList_madeCells_one]
  rw [e]
theorem rframes_any {w : World} {r b n : Nat} {Wd : Nat → Nat} (h : RA w r b n Wd) : Calls Tryz.prog 101 #[.pointer (some ⟨r, 0, none⟩)] w fun e w' => e = .returned (.int .i64 (n : Int)) ∧ w' = w := by
  have c0 := h.c0
  have hn := h.n8.2
  obtain ⟨L, hL⟩ : ∃ L, 64 * n = L := ⟨_, rfl⟩
  rw [hL] at c0
  have e1 : (L : Int) / 64 = (n : Int) := by omega
  have e2 : Int.tdiv (L : Int) 64 = (n : Int) := (Int.tdiv_eq_ediv_of_nonneg (by omega)).trans e1
  have e3 : IntKind.i64.wrap (n : Int) = (n : Int) := IntWalk.i64_in _ (by omega)
  have e4 : wrap64 (n : Int) = (n : Int) := IntWalk.wrap64_in _ (by omega)
  have e5 : L / 64 = n := by omega
  clear h hL hn
  go_enter Tryz.func101, Tryz.ntmps101
  go_wp2
  go_ret
  exact ⟨rfl, rfl⟩
set_option maxHeartbeats 1000000 in
theorem part_ok {w : World} {r b n f m : Nat} {Wd : Nat → Nat} (h : RA w r b n Wd) (hm : 1 ≤ m) (hf : f + m ≤ n) : Calls Tryz.prog 89 #[.pointer (some ⟨r, 0, none⟩), .int .i64 (f : Int), .int .i64 (m : Int)] w fun e w' => ∃ c, e = .returned (.tuple #[.slice (some ⟨b, 64 * f, none⟩) (64 * m) c, .int .i64 0]) ∧ w' = w := by
  have c0 := h.c0
  have HR := Lib.hid h
  have hn := h.n8.2
  obtain ⟨L, hL⟩ : ∃ L, 64 * n = L := ⟨_, rfl⟩
  rw [hL] at c0
  have z0 : decide ((m : Int) < 1) = false := by simp; omega
  have z1 : decide ((f : Int) < 0) = false := by simp
  have z2 : decide ((n : Int) < (f : Int)) = false := by simp; omega
  have z2n : decide (n < f) = false := by simp; omega
  have z3 : IntKind.i64.wrap ((n : Int) - (f : Int)) = ((n - f : Nat) : Int) := (IntWalk.i64_in _ (by omega)).trans (by omega)
  obtain ⟨nf, hnf⟩ : ∃ nf, n - f = nf := ⟨_, rfl⟩
  rw [hnf] at z3
  have z4 : decide ((nf : Int) < (m : Int)) = false := by simp; omega
  have z4n : decide (nf < m) = false := by simp; omega
  have z0n : decide (m < 1) = false := by simp; omega
  obtain ⟨a, ha⟩ : ∃ a, 64 * f = a := ⟨_, rfl⟩
  obtain ⟨d, hd⟩ : ∃ d, 64 * (f + m) = d := ⟨_, rfl⟩
  have z5 : IntKind.i64.wrap ((f : Int) * 64) = (a : Int) := (IntWalk.i64_in _ (by omega)).trans (by omega)
  have z6 : IntKind.i64.wrap ((f : Int) + (m : Int)) = ((f + m : Nat) : Int) := (IntWalk.i64_in _ (by omega)).trans (by omega)
  obtain ⟨fm, hfm⟩ : ∃ fm, f + m = fm := ⟨_, rfl⟩
  rw [hfm] at z6
  have z7 : IntKind.i64.wrap ((fm : Int) * 64) = (d : Int) := (IntWalk.i64_in _ (by omega)).trans (by omega)
  have h1 : a < d ∧ d ≤ L := by omega
  have hrun := fun W => run_slice_u8 W b L a d h1.1 h1.2
  rw [show 64 * m = d - a by omega, ha]
  clear h hL hn hm hf hnf hd hfm
  go_enter Tryz.func89, Tryz.ntmps89
  go_wp2_with (go_at_call 101; refine (rframes_any HR.out).mono ?_; rintro e w1 ⟨rfl, rfl⟩)
  go_ret2
  exact ⟨_, rfl, rfl⟩

set_option maxHeartbeats 1000000 in
theorem zero_ok {w : World} {r b n f m : Nat} {Wd : Nat → Nat} (h : RA w r b n Wd) (hm : 1 ≤ m) (hf : f + m ≤ n) : Calls Tryz.prog 71 #[.pointer (some ⟨r, 0, none⟩), .int .i64 (f : Int), .int .i64 (m : Int)] w fun e w' => e = .returned (.int .i64 0) ∧ RA w' r b n (zerW Wd f m) ∧ Keep (fun z => z = b) w w' := by
  have HR := Lib.hid h
  have HM := Lib.hid (And.intro hm hf)
  have HNE : Hid (r ≠ b) := by obtain ⟨c, hc⟩ := h.mb.typ; exact typ_ne h.hr hc (by decide)
  have hcl : ∀ W c ty, Keep (fun _ => False) w W → (Builtin.clear_ #[75] ty #[.slice (some ⟨b, 64 * f, none⟩) (64 * m) c]).run Tryz.prog W = .ok (.tuple #[]) (W.setCells b (64 * f) (List.replicate (64 * m) (.int .u8 0))) := by
    intro W c ty k
    have hmb := h.mb.keep k id
    exact Lib.run_clear_slice W 75 5 ty (.int .u8 0) Tryz.underlying75 (fun w => by go_simp) rfl rfl b (64 * f) (64 * m) c (by omega) (fun j hj => by rw [hmb.cell (by omega)]; rfl) (fun j hj => hmb.frozen _)
  clear h hm hf
  go_enter Tryz.func71, Tryz.ntmps71
  go_wp2_with (go_at_call 89; refine (part_ok HR.out HM.out.1 HM.out.2).mono ?_; rintro e w1 ⟨c, rfl, rfl⟩; have hcl2 := fun ty => hcl w1 c ty (Keep.refl _ _))
  go_ret
  have hk : Keep (fun z => z = b) w1 (w1.setCells b (64 * f) (List.replicate (64 * m) (.int .u8 0))) := keep_zap _ _ _
  refine ⟨rfl, ⟨(hk.block r (block_lt HR.out.hr) HNE.out).trans HR.out.hr, (HR.out.mb.zap (.int .u8 0) (64 * m) (64 * f)).congr fun k _ => ?_, HR.out.n8, fun j hj => ?_⟩, hk⟩
  · unfold byV zerW
    by_cases h : 64 * f ≤ k ∧ k < 64 * f + 64 * m
    · rw [if_pos h, if_pos (by omega)]; simp [byt]
    · rw [if_neg h, if_neg (by omega)]
  · unfold zerW
    split
    · omega
    · exact HR.out.lt j hj

theorem bounds_facts (n : Nat) : (n < 8 ∨ 1024 < n) ∨ (8 ≤ n ∧ n ≤ 1024) := by omega
set_option maxHeartbeats 1000000 in
theorem ram_new (n : Nat) (h0 : 8 ≤ n) (h1 : n ≤ 1024) (w : World) : Calls Tryz.prog 41 #[.int .i64 (n : Int)] w fun e w' => ∃ r b, e = .returned (.tuple #[.pointer (some ⟨r, 0, none⟩), .int .i64 0]) ∧ RA w' r b n (fun _ => 0) ∧ w.heap.size ≤ r ∧ w.heap.size ≤ b ∧ r ≠ b ∧ Keep (fun _ => False) w w' := by
  have z0 : decide ((n : Int) < 8) = false := by simp; omega
  have z0n : decide (n < 8) = false := by simp; omega
  have z1 : decide ((1024 : Int) < (n : Int)) = false := by simp; omega
  have z1n : decide (1024 < n) = false := by simp; omega
  obtain ⟨L, hL⟩ : ∃ L, 64 * n = L := ⟨_, rfl⟩
  have z2 : IntKind.i64.wrap ((n : Int) * 64) = (L : Int) := (IntWalk.i64_in _ (by omega)).trans (by omega)
  have hmk := fun W => make75 L (by omega) W
  have HN := Lib.hid (And.intro h0 h1)
  have HL := Lib.hid hL
  obtain ⟨R, hR⟩ : ∃ R, Array.replicate L (Value.int .u8 0) = R := ⟨_, rfl⟩
  have HR := Lib.hid hR
  simp only [hR] at hmk
  clear h0 h1 hL hR
  go_enter Tryz.func41, Tryz.ntmps41
  go_wp2
  go_ret2
  have hk : Keep (fun _ => False) w ((w.alloc (.cells R 5)).alloc (.cells #[.slice (some ⟨w.heap.size, 0, none⟩) L L] 77)) := ((Keep.refl _ _).alloc _).alloc _
  have hz : (w.alloc (.cells R 5)).heap.size = w.heap.size + 1 := World.size_alloc _ _
  have hR := heap_alloc_new w (.cells R 5)
  refine ⟨w.heap.size + 1, w.heap.size, rfl, ⟨?_, ⟨R, ?_, ?_, ?_⟩, HN.out, fun _ _ => by decide⟩, by omega, Nat.le_refl _, by omega, hk⟩
  · rw [HL.out, ← hz]; exact heap_alloc_new _ _
  · rw [heap_alloc_at, if_neg (by rw [hz]; omega)]; exact hR
  · rw [← HR.out, HL.out]; simp
  · intro i hi
    rw [← HR.out]
    rw [HL.out] at hi
    simp [hi, byV, byt]

end Go.Proofs.YtjffdimlbppgcaaGreat
