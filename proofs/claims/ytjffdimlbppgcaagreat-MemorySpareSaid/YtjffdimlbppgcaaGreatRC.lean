/- Memory: the reference's words. -/
import Derived.Test.YtjffdimlbppgcaaGreatRB
set_option linter.unusedVariables false
set_option linter.unusedSimpArgs false
namespace Go.Proofs.YtjffdimlbppgcaaGreat
open Go.RowKit Go.Own

def woV (Wd : Nat → Nat) : Nat → Value := fun i => .int .u64 ((Wd i : Nat) : Int)
/-- The reference's words of n frames. -/
structure RW (w : World) (x g n : Nat) (Wd : Nat → Nat) : Prop where
  hx : w.heap[x]? = some (.cells #[.slice (some ⟨g, 0, none⟩) (8 * n) (8 * n)] 45 (0, 0))
  mg : MetV w g 35 (8 * n) (woV Wd)
  n8 : 8 ≤ n ∧ n ≤ 1024
theorem RW.c0 {w : World} {x g n : Nat} {Wd : Nat → Nat} (h : RW w x g n Wd) : w.cell? ⟨x, 0, none⟩ = some (.slice (some ⟨g, 0, none⟩) (8 * n) (8 * n)) := by simp [cell_block h.hx]
theorem RW.keep {w w' : World} {x g n : Nat} {Wd : Nat → Nat} {S : Nat → Prop} (h : RW w x g n Wd) (k : Keep S w w') (hr : ¬ S x) (hb : ¬ S g) : RW w' x g n Wd :=
  ⟨(k.block x (block_lt h.hx) hr).trans h.hx, h.mg.keep k hb, h.n8⟩
theorem RW.ne {w : World} {x g n : Nat} {Wd : Nat → Nat} (h : RW w x g n Wd) : x ≠ g := by obtain ⟨c, hc⟩ := h.mg.typ; exact typ_ne h.hx hc (by decide)
theorem RW.set {w' : World} {x g n i v : Nat} {Wd : Nat → Nat} (h : RW w' x g n Wd) : RW (w'.setCell ⟨g, i, none⟩ (.int .u64 (v : Int))) x g n (setW Wd i v) ∧ Keep (fun z => z = g) w' (w'.setCell ⟨g, i, none⟩ (.int .u64 (v : Int))) := by
  have k : Keep (fun z => z = g) w' (w'.setCell ⟨g, i, none⟩ (.int .u64 (v : Int))) := (Keep.refl (fun z => z = g) w').setCell (p := ⟨g, i, none⟩) (fun _ => rfl) _
  exact ⟨⟨(k.block x (block_lt h.hx) h.ne).trans h.hx, (h.mg.set (i := i) (.int .u64 (v : Int))).congr fun j _ => by unfold woV setW; split <;> rfl, h.n8⟩, k⟩
theorem quo8 (i L : Nat) (h : i < L) (hL : L ≤ 100000) : ∃ z : Nat, 8 * i = z ∧ Int.tdiv (z : Int) 8 = (i : Int) ∧ (z : Int) / 8 = (i : Int) ∧ z / 8 = i ∧ Int.tmod (z : Int) 8 = 0 ∧ (z : Int) % 8 = 0 ∧ z % 8 = 0 ∧ IntKind.i64.wrap (i : Int) = (i : Int) ∧ wrap64 (i : Int) = (i : Int) ∧ IntKind.i64.wrap ((L : Int) * 8) = ((8 * L : Nat) : Int) ∧ z < 8 * L :=
  ⟨8 * i, rfl, (Int.tdiv_eq_ediv_of_nonneg (by omega)).trans (by omega), by omega, by omega, (Int.tmod_eq_emod_of_nonneg (by omega)).trans (by omega), by omega, by omega, IntWalk.i64_in _ (by omega), IntWalk.wrap64_in _ (by omega), (IntWalk.i64_in _ (by omega)).trans (by omega), by omega⟩
set_option maxHeartbeats 1000000 in
theorem wload_ok {w : World} {x g n i : Nat} {Wd : Nat → Nat} (h : RW w x g n Wd) (hi : i < 8 * n) : Calls Tryz.prog 79 #[.pointer (some ⟨x, 0, none⟩), .int .i64 ((8 * i : Nat) : Int)] w fun e w' => e = .returned (.tuple #[.int .u64 (Wd i : Nat), .int .i64 0]) ∧ w' = w := by
  have c0 := h.c0
  have hc := h.mg.cell hi
  unfold woV at hc
  have hn := h.n8.2
  obtain ⟨L, hL⟩ : ∃ L, 8 * n = L := ⟨_, rfl⟩
  rw [hL] at c0 hi
  obtain ⟨z, hz, e1, e2, e3, e4, e5, e6, e7, e8, e9, hzl⟩ := quo8 i L hi (by omega)
  obtain ⟨L8, hL8⟩ : ∃ L8, 8 * L = L8 := ⟨_, rfl⟩
  rw [hL8] at e9 hzl
  rw [hz]
  have z0 : decide ((z : Int) < 0) = false := by simp
  have z1 : decide ((L8 : Int) ≤ (z : Int)) = false := by simp; omega
  have z2 : decide (L8 ≤ z) = false := by simp; omega
  have i1 : (i : Int) < L := by omega
  clear h hn hL hL8 hz hzl
  go_enter Tryz.func79, Tryz.ntmps79
  go_wp2
  go_ret2
  exact ⟨rfl, rfl⟩
set_option maxHeartbeats 1000000 in
theorem wstore_ok {w : World} {x g n i v : Nat} {Wd : Nat → Nat} (h : RW w x g n Wd) (hi : i < 8 * n) : Calls Tryz.prog 54 #[.pointer (some ⟨x, 0, none⟩), .int .i64 ((8 * i : Nat) : Int), .int .u64 (v : Int)] w fun e w' => e = .returned (.int .i64 0) ∧ RW w' x g n (setW Wd i v) ∧ Keep (fun z => z = g) w w' := by
  have c0 := h.c0
  have hc := h.mg.cell hi
  have hf := h.mg.frozen i
  unfold woV at hc
  have HR := Lib.hid h
  have HL : Hid (Calls Tryz.prog 79 #[.pointer (some ⟨x, 0, none⟩), .int .i64 ((8 * i : Nat) : Int)] w fun e w' => e = .returned (.tuple #[.int .u64 (Wd i : Nat), .int .i64 0]) ∧ w' = w) := wload_ok h hi
  have hn := h.n8.2
  obtain ⟨L, hL⟩ : ∃ L, 8 * n = L := ⟨_, rfl⟩
  rw [hL] at c0 hi
  obtain ⟨z, hz, e1, e2, e3, e4, e5, e6, e7, e8, e9, hzl⟩ := quo8 i L hi (by omega)
  rw [hz] at HL ⊢
  have i1 : (i : Int) < L := by omega
  clear h hn hL hz hzl e9 e4 e5 e6
  go_enter Tryz.func54, Tryz.ntmps54
  go_wp2_with (go_at_call 79; refine HL.out.mono ?_; rintro e w1 ⟨rfl, rfl⟩)
  go_ret
  exact ⟨rfl, HR.out.set.1, HR.out.set.2⟩
theorem wframes_any {w : World} {x g n : Nat} {Wd : Nat → Nat} (h : RW w x g n Wd) : Calls Tryz.prog 110 #[.pointer (some ⟨x, 0, none⟩)] w fun e w' => e = .returned (.int .i64 (n : Int)) ∧ w' = w := by
  have c0 := h.c0
  have hn := h.n8.2
  obtain ⟨L, hL⟩ : ∃ L, 8 * n = L := ⟨_, rfl⟩
  rw [hL] at c0
  have e1 : (L : Int) / 8 = (n : Int) := by omega
  have e2 : Int.tdiv (L : Int) 8 = (n : Int) := (Int.tdiv_eq_ediv_of_nonneg (by omega)).trans e1
  have e3 : IntKind.i64.wrap (n : Int) = (n : Int) := IntWalk.i64_in _ (by omega)
  have e4 : wrap64 (n : Int) = (n : Int) := IntWalk.wrap64_in _ (by omega)
  have e5 : L / 8 = n := by omega
  clear h hL hn
  go_enter Tryz.func110, Tryz.ntmps110
  go_wp2
  go_ret
  exact ⟨rfl, rfl⟩
theorem there_ok {w : World} {x g n f m : Nat} {Wd : Nat → Nat} (h : RW w x g n Wd) (hm : 1 ≤ m) (hf : f + m ≤ n) : Calls Tryz.prog 103 #[.pointer (some ⟨x, 0, none⟩), .int .i64 (f : Int), .int .i64 (m : Int)] w fun e w' => e = .returned (.bool true) ∧ w' = w := by
  have HR := Lib.hid h
  have hn := h.n8.2
  have z1 : decide ((0 : Int) ≤ (f : Int)) = true := by simp
  have z2 : decide ((f : Int) < (n : Int)) = true := by simp; omega
  have z2n : decide (f < n) = true := by simp; omega
  have z3 : IntKind.i64.wrap ((n : Int) - (f : Int)) = ((n - f : Nat) : Int) := (IntWalk.i64_in _ (by omega)).trans (by omega)
  obtain ⟨nf, hnf⟩ : ∃ nf, n - f = nf := ⟨_, rfl⟩
  rw [hnf] at z3
  have z4 : decide ((m : Int) ≤ (nf : Int)) = true := by simp; omega
  have z4n : decide (m ≤ nf) = true := by simp; omega
  clear h hn hf hnf hm
  go_enter Tryz.func103, Tryz.ntmps103
  go_wp2_with (go_at_call 110; refine (wframes_any HR.out).mono ?_; rintro e w1 ⟨rfl, rfl⟩)
  go_ret
  exact ⟨rfl, rfl⟩
theorem zerW_step {Wd : Nat → Nat} {f j : Nat} (k : Nat) : setW (fun k => if 8 * f ≤ k ∧ k < j then 0 else Wd k) j 0 k = (if 8 * f ≤ k ∧ k < j + 1 then 0 else Wd k) ∨ j < 8 * f := by
  unfold setW
  show ((if k = j then 0 else if 8 * f ≤ k ∧ k < j then 0 else Wd k) = _) ∨ _
  by_cases e : k = j
  · subst e
    by_cases h : 8 * f ≤ k
    · left; rw [if_pos rfl, if_pos (by omega)]
    · right; omega
  · left
    rw [if_neg e]
    by_cases h : 8 * f ≤ k ∧ k < j
    · rw [if_pos h, if_pos (by omega)]
    · rw [if_neg h, if_neg (by omega)]
theorem RW.congr {w : World} {x g n : Nat} {Wd Wd' : Nat → Nat} (h : RW w x g n Wd) (e : ∀ k, Wd k = Wd' k) : RW w x g n Wd' := by
  obtain rfl : Wd = Wd' := funext e
  exact h
set_option maxRecDepth 100000 in
set_option maxHeartbeats 1000000 in
theorem wzero_ok {w : World} {x g n f m : Nat} {Wd : Nat → Nat} (h : RW w x g n Wd) (hm : 1 ≤ m) (hf : f + m ≤ n) : Calls Tryz.prog 93 #[.pointer (some ⟨x, 0, none⟩), .int .i64 (f : Int), .int .i64 (m : Int)] w fun e w' => e = .returned (.int .i64 0) ∧ RW w' x g n (zerW Wd f m) ∧ Keep (fun z => z = g) w w' := by
  have HR := Lib.hid h
  have HM := Lib.hid (And.intro hm hf)
  have hn := h.n8.2
  have z0 : decide ((m : Int) < 1) = false := by simp; omega
  have z0n : decide (m < 1) = false := by simp; omega
  obtain ⟨a, ha⟩ : ∃ a, 8 * f = a := ⟨_, rfl⟩
  obtain ⟨d, hd⟩ : ∃ d, 8 * (f + m) = d := ⟨_, rfl⟩
  obtain ⟨fm, hfm⟩ : ∃ fm, f + m = fm := ⟨_, rfl⟩
  have z5 : IntKind.i64.wrap ((f : Int) * 8) = (a : Int) := (IntWalk.i64_in _ (by omega)).trans (by omega)
  have z6 : IntKind.i64.wrap ((f : Int) + (m : Int)) = (fm : Int) := (IntWalk.i64_in _ (by omega)).trans (by omega)
  have z7 : IntKind.i64.wrap ((fm : Int) * 8) = (d : Int) := (IntWalk.i64_in _ (by omega)).trans (by omega)
  obtain ⟨L, hL⟩ : ∃ L, 8 * n = L := ⟨_, rfl⟩
  have had : a ≤ d ∧ d ≤ L := by omega
  have HA := Lib.hid ha
  have HD := Lib.hid hd
  have HFM := Lib.hid hfm
  have HL := Lib.hid hL
  have HN : Hid (d ≤ 10000) := by unfold Hid; omega
  clear h hn ha hd hfm hL hm hf
  go_enter Tryz.func93, Tryz.ntmps93
  go_wp2_with (go_at_call 103; refine (there_ok HR.out HM.out.1 HM.out.2).mono ?_; rintro e w1 ⟨rfl, rfl⟩)
  go_loopw [7] (fun i wr => ∃ j : Nat, a ≤ j ∧ j ≤ d ∧ i = .int .i64 (j : Int) ∧ RW wr x g n (fun k => if 8 * f ≤ k ∧ k < j then 0 else Wd k) ∧ Keep (fun z => z = g) w1 wr) (fun i _ => d - (intOf i).toNat)
  case atStart =>
    refine ⟨a, Nat.le_refl _, had.1, rfl, HR.out.congr fun k => ?_, Keep.refl _ _⟩
    rw [if_neg (by have := HA.out; omega)]
  case round =>
    obtain ⟨j, h1, h2, rfl, hr, hk⟩ := hrel
    have HR1 := Lib.hid hr
    have HK := Lib.hid hk
    have c0 := hr.c0
    rw [HL.out] at c0
    clear hr hk
    by_cases hlt : j < d
    · have i1 : (j : Int) < d := by omega
      have i2 : (j : Int) < L := by omega
      have hc := HR1.out.mg.cell (i := j) (by rw [HL.out]; omega)
      have hf := HR1.out.mg.frozen j
      obtain ⟨u, hu⟩ : ∃ u, woV (fun k => if 8 * f ≤ k ∧ k < j then 0 else Wd k) j = u := ⟨_, rfl⟩
      rw [hu] at hc
      have e8 : IntKind.i64.wrap ((j : Int) + 1) = (j : Int) + 1 := IntWalk.i64_in _ (by have := HN.out; omega)
      clear hu
      go_wp2
      go_roundw
      case rel =>
        refine ⟨j + 1, by omega, by omega, by go_num, ?_, ?_⟩
        · have h := (HR1.out.set (i := j) (v := 0)).1
          refine RW.congr h fun k => ?_
          rcases zerW_step (Wd := Wd) (f := f) (j := j) k with h | h
          · exact h
          · have := HA.out; omega
        · exact HK.out.setCell (fun _ => rfl) _
      case measure => simp [intOf]; omega
    · obtain rfl : j = d := by omega
      clear hlt
      go_wp2
      go_ret
      refine ⟨rfl, HR1.out.congr fun k => ?_, HK.out⟩
      unfold zerW
      rw [HD.out]

theorem make43 (L : Nat) (h : L ≤ 100000) (w : World) : (Instr.makeSlice 43 (.int .i64 (L : Int)) (.int .i64 (L : Int))).run Tryz.prog w = .ok (.slice (some ⟨w.heap.size, 0, none⟩) L L) (w.alloc (.cells (Array.replicate L (.int .u64 0)) 35)) := by
  rw [run_make_row' 43 35 (.int .u64 0) 8 Tryz.underlying43 (by kernel_rfl) rfl .i64 .i64 L (by omega) (by omega)]
  have e : madeCells #[Value.int .u64 0] L = Array.replicate L (.int .u64 0) := by
    rw [← List.toArray_replicate, ← toList_madeCells_one]
  rw [e]
set_option maxHeartbeats 1000000 in
theorem wram_new (n : Nat) (h0 : 8 ≤ n) (h1 : n ≤ 1024) (w : World) : Calls Tryz.prog 44 #[.int .i64 (n : Int)] w fun e w' => ∃ x g, e = .returned (.tuple #[.pointer (some ⟨x, 0, none⟩), .int .i64 0]) ∧ RW w' x g n (fun _ => 0) ∧ w.heap.size ≤ x ∧ w.heap.size ≤ g ∧ Keep (fun _ => False) w w' := by
  have z0 : decide ((n : Int) < 8) = false := by simp; omega
  have z0n : decide (n < 8) = false := by simp; omega
  have z1 : decide ((1024 : Int) < (n : Int)) = false := by simp; omega
  have z1n : decide (1024 < n) = false := by simp; omega
  obtain ⟨L, hL⟩ : ∃ L, 8 * n = L := ⟨_, rfl⟩
  have z2 : IntKind.i64.wrap ((n : Int) * 8) = (L : Int) := (IntWalk.i64_in _ (by omega)).trans (by omega)
  have hmk := fun W => make43 L (by omega) W
  have HN := Lib.hid (And.intro h0 h1)
  have HL := Lib.hid hL
  obtain ⟨R, hR⟩ : ∃ R, Array.replicate L (Value.int .u64 0) = R := ⟨_, rfl⟩
  have HR := Lib.hid hR
  simp only [hR] at hmk
  clear h0 h1 hL hR
  go_enter Tryz.func44, Tryz.ntmps44
  go_wp2
  go_ret2
  have hk : Keep (fun _ => False) w ((w.alloc (.cells R 35)).alloc (.cells #[.slice (some ⟨w.heap.size, 0, none⟩) L L] 45)) := ((Keep.refl _ _).alloc _).alloc _
  have hz : (w.alloc (.cells R 35)).heap.size = w.heap.size + 1 := World.size_alloc _ _
  have hR := heap_alloc_new w (.cells R 35)
  refine ⟨w.heap.size + 1, w.heap.size, rfl, ⟨?_, ⟨R, ?_, ?_, ?_⟩, HN.out⟩, by omega, Nat.le_refl _, hk⟩
  · rw [HL.out, ← hz]; exact heap_alloc_new _ _
  · rw [heap_alloc_at, if_neg (by rw [hz]; omega)]; exact hR
  · rw [← HR.out, HL.out]; simp
  · intro i hi
    rw [← HR.out]
    rw [HL.out] at hi
    simp [hi, woV]

end Go.Proofs.YtjffdimlbppgcaaGreat
