/- Gather: the reference's Frames. -/
import Derived.Test.YtibcfglfcoljgaaAC
set_option linter.unusedVariables false
set_option linter.unusedSimpArgs false
namespace Go.Proofs.Ytibcfglfcoljgaa
open Go.RowKit Go.Own

theorem sX {S : Nat → Prop} {w W : World} {p b : Nat} {v y0 y1 : Value} (h : Keep S w W) (hp : ¬ S p) (hb : ¬ S b) (h2 : w.cell? ⟨p, 2, none⟩ = some v) (h3 : w.frozen? ⟨p, 2, none⟩ = false)
    (hy : w.cell? ⟨b, 0, none⟩ = some y0 ∧ w.cell? ⟨b, 1, none⟩ = some y1) :
    W.cell? ⟨p, 2, none⟩ = some v ∧ W.frozen? ⟨p, 2, none⟩ = false ∧ W.cell? ⟨b, 0, none⟩ = some y0 ∧ W.cell? ⟨b, 1, none⟩ = some y1 :=
  ⟨(h.cell (block_lt_cell h2) hp).trans h2, (h.frozen (block_lt_cell h2) hp).trans h3, (h.cell (block_lt_cell hy.1) hb).trans hy.1, (h.cell (block_lt_cell hy.2) hb).trans hy.2⟩
theorem rem_run2 (f z : Nat) (hf : f < 5000) (h1 : 1 ≤ z) (hz : z < 1000) (W : World) : Sem.run Try.prog (binOp .rem 3 (.int .i64 (f:Int)) (.int .i64 (z:Int))) W = Result.ok (.int .i64 ((f % z : Nat) : Int)) W := by
  have a7 : ¬ ((z : Int) = 0) := by omega
  have a8 : ¬ (z = 0) := by omega
  have hlt := Nat.mod_lt f (show 0 < z by omega)
  obtain ⟨j, hj⟩ : ∃ j, f % z = j := ⟨_, rfl⟩
  rw [hj] at hlt ⊢
  have a9 : wrap64 (j : Int) = (j : Int) := IntWalk.wrap64_in _ (by omega)
  have a9' : IntKind.i64.wrap (j : Int) = (j : Int) := IntWalk.i64_in _ (by omega)
  have a4 : Int.tmod (f : Int) (z : Int) = (j : Int) := by
    rw [Int.tmod_eq_emod_of_nonneg (by omega), ← Int.natCast_emod, hj]
  go_simp
theorem size_q (o z : Nat) (h : o ≤ 8) (hz : 2 ^ o = z) (W : World) : Calls Try.prog 19 #[.int .i64 (o : Int)] W fun e w' => e = .returned (.int .i64 (z : Int)) ∧ w' = W := by
  have e : (z : Int) = (2 : Int) ^ o := by rw [← hz]; simp
  rw [e]; exact size_any o h W

set_option maxHeartbeats 1000000 in
theorem framesX_range (q : Nat) (b : Bk) (h : ¬ inR b) (w : World) :
    Calls Try.prog 27 #[.pointer (some ⟨q, 0, none⟩), .agg #[.int .i64 b.f, .int .i64 b.o]] w fun e w' => e = .returned (.int .i64 3) ∧ Keep (fun _ => False) w w' := by
  obtain ⟨f, o⟩ := b
  have HN := Lib.hid (cells2 (heap_alloc_new w (.cells #[.int .i64 f, .int .i64 o] 48)))
  obtain ⟨n0, n1⟩ := HN.out
  unfold inR sz at h
  simp only at h ⊢
  by_cases h1 : o < 0
  · have t1 : decide (o < 0) = true := decide_eq_true h1
    clear h
    go_enter Try.func27, Try.ntmps27
    go_wp2
    go_quiet (fail)
    go_wp2
    go_ret
    exact ⟨rfl, (by (repeat (first | exact Keep.refl _ _ | exact Keep.refl _ _ | refine Keep.drew ?_ | refine Keep.drewN ?_ _ | refine Keep.alloc ?_ _ | refine Keep.setNew ?_ (by omega) _)); done)⟩
  have t1 : decide (o < 0) = false := decide_eq_false h1
  by_cases h2 : 8 < o
  · have t2 : decide (8 < o) = true := decide_eq_true h2
    clear h
    go_enter Try.func27, Try.ntmps27
    go_wp2
    go_quiet (fail)
    go_wp2
    go_ret
    exact ⟨rfl, (by (repeat (first | exact Keep.refl _ _ | exact Keep.refl _ _ | refine Keep.drew ?_ | refine Keep.drewN ?_ _ | refine Keep.alloc ?_ _ | refine Keep.setNew ?_ (by omega) _)); done)⟩
  have t2 : decide (8 < o) = false := decide_eq_false h2
  by_cases h3 : f < 0
  · have t3 : decide (f < 0) = true := decide_eq_true h3
    clear h
    go_enter Try.func27, Try.ntmps27
    go_wp2
    go_quiet (fail)
    go_wp2
    go_ret
    exact ⟨rfl, (by (repeat (first | exact Keep.refl _ _ | exact Keep.refl _ _ | refine Keep.drew ?_ | refine Keep.drewN ?_ _ | refine Keep.alloc ?_ _ | refine Keep.setNew ?_ (by omega) _)); done)⟩
  have t3 : decide (f < 0) = false := decide_eq_false h3
  obtain ⟨o, rfl⟩ := Int.eq_ofNat_of_zero_le (show 0 ≤ o by omega)
  have hs := sz_bd o (by omega)
  rw [Int.toNat_natCast] at h
  obtain ⟨z, hz⟩ : ∃ z, 2 ^ o = z := ⟨_, rfl⟩
  have hsq : Hid (∀ W, Calls Try.prog 19 #[.int .i64 (o : Int)] W fun e w' => e = .returned (.int .i64 (z : Int)) ∧ w' = W) := size_q o z (by omega) hz
  rw [hz] at h hs
  clear hz
  have hq : IntKind.i64.wrap (1024 - (z : Int)) = 1024 - (z : Int) := IntWalk.i64_in _ (by omega)
  have t4 : decide (1024 - (z : Int) < f) = true := by rw [decide_eq_true_eq]; omega
  clear h
  go_enter Try.func27, Try.ntmps27
  go_wp2
  go_quiet ((go_at_call 19; exact Calls.quiet_of_same (hsq.out _)))
  go_wp2
  go_ret
  exact ⟨rfl, (by (repeat (first | exact Keep.refl _ _ | exact Keep.refl _ _ | refine Keep.drew ?_ | refine Keep.drewN ?_ _ | refine Keep.alloc ?_ _ | refine Keep.setNew ?_ (by omega) _)); done)⟩

set_option maxHeartbeats 1000000 in
theorem framesX_align (q : Nat) (b : Bk) (h : inR b) (h8 : b.f % sz b ≠ 0) (w : World) :
    Calls Try.prog 27 #[.pointer (some ⟨q, 0, none⟩), .agg #[.int .i64 b.f, .int .i64 b.o]] w fun e w' => e = .returned (.int .i64 4) ∧ Keep (fun _ => False) w w' := by
  obtain ⟨f, o⟩ := b
  unfold inR sz at h
  unfold sz at h8
  simp only at h h8 ⊢
  obtain ⟨h1, h2, h3, h4⟩ := h
  obtain ⟨o, rfl⟩ := Int.eq_ofNat_of_zero_le h1
  obtain ⟨f, rfl⟩ := Int.eq_ofNat_of_zero_le h3
  have HN := Lib.hid (cells2 (heap_alloc_new w (.cells #[.int .i64 (f : Int), .int .i64 (o : Int)] 48)))
  obtain ⟨n0, n1⟩ := HN.out
  rw [Int.toNat_natCast] at h4 h8
  have hs := sz_bd o (by omega)
  obtain ⟨z, hz⟩ : ∃ z, 2 ^ o = z := ⟨_, rfl⟩
  have hsq : Hid (∀ W, Calls Try.prog 19 #[.int .i64 (o : Int)] W fun e w' => e = .returned (.int .i64 (z : Int)) ∧ w' = W) := size_q o z (by omega) hz
  rw [hz] at h4 hs h8
  clear hz
  have t1 : decide ((o : Int) < 0) = false := decide_eq_false (by omega)
  have t2 : decide (8 < (o : Int)) = false := decide_eq_false (by omega)
  have t3 : decide ((f : Int) < 0) = false := decide_eq_false (by omega)
  have hq : IntKind.i64.wrap (1024 - (z : Int)) = 1024 - (z : Int) := IntWalk.i64_in _ (by omega)
  have t4 : decide (1024 - (z : Int) < (f : Int)) = false := decide_eq_false (by omega)
  have hrem := rem_run2 f z (by omega) (by omega) (by omega)
  have hne : f % z ≠ 0 := by rw [← Int.natCast_emod] at h8; omega
  have t5 : ((f : Int) % (z : Int) != 0) = true := by rw [bne_iff_ne]; exact h8
  have t6 : (z : Int) ≠ 0 := by omega
  clear h4 h8 h1 h3 hrem hne
  go_enter Try.func27, Try.ntmps27
  go_wp2
  go_quiet ((go_at_call 19; exact Calls.quiet_of_same (hsq.out _)))
  go_wp2
  generalize hw9 : World.drewN _ _ = w9
  have HK9 : Hid (Keep (fun _ => False) w w9) := by rw [← hw9]; exact (by (repeat (first | exact Keep.refl _ _ | exact Keep.refl _ _ | refine Keep.drew ?_ | refine Keep.drewN ?_ _ | refine Keep.alloc ?_ _ | refine Keep.setNew ?_ (by omega) _)); done)
  have hm : w9.cell? ⟨w.heap.size, 0, none⟩ = some (.int .i64 (f : Int)) ∧ w9.cell? ⟨w.heap.size, 1, none⟩ = some (.int .i64 (o : Int)) := by rw [← hw9]; exact HN.out
  obtain ⟨m0, m1⟩ := hm
  clear hw9 n0 n1
  go_quiet ((go_at_call 19; exact Calls.quiet_of_same (hsq.out _)))
  go_wp2
  go_ret
  exact ⟨rfl, (by (repeat (first | exact HK9.out | exact Keep.refl _ _ | refine Keep.drew ?_ | refine Keep.drewN ?_ _ | refine Keep.alloc ?_ _ | refine Keep.setNew ?_ (by omega) _)); done)⟩

/-- What the reference's Frames has done. -/
def FrX (w : World) (B q : Nat) (m : Int) (v u : Value) (P : List Sp) (Q : List Bk) (r : Int) (b : Bk) (e : Ending) (w' : World) : Prop :=
  (Q.any (ov b) = true → e = .returned (.int .i64 7) ∧ Keep (fun _ => False) w w') ∧
  (Q.any (ov b) = false → e = .returned (.int .i64 0) ∧ ∃ u', RepX w' B q m v u' P (Q ++ [b]) r ∧ Keep (fun z => z = q ∨ u.ownBlock = some z) w w' ∧ ∀ x, u'.ownBlock = some x → u.ownBlock = some x ∨ w.heap.size ≤ x)

theorem framesX_close {w w2 : World} {B q : Nat} {m : Int} {v u : Value} {P : List Sp} {Q : List Bk} {r : Int} {b : Bk} {a2 : Option Addr} {l2 c2 : Nat} (hR : RepX w B q m v u P Q r) (hl : Q.length < 200)
    (K : Keep (fun z => u.ownBlock = some z) w w2) (ho : OwnL bkE w2 B 48 (.slice a2 l2 c2) (Q ++ [b])) (hf : ∀ x, (Value.slice a2 l2 c2).ownBlock = some x → u.ownBlock = some x ∨ w.heap.size ≤ x) :
    ∃ u', RepX (w2.setCell ⟨q, 2, none⟩ (.slice a2 l2 c2)) B q m v u' P (Q ++ [b]) r ∧ Keep (fun z => z = q ∨ u.ownBlock = some z) w (w2.setCell ⟨q, 2, none⟩ (.slice a2 l2 c2)) ∧ ∀ x, u'.ownBlock = some x → u.ownBlock = some x ∨ w.heap.size ≤ x := by
  have hq6 : w2.heap[q]? = some (.cells #[.int .i64 m, v, u, .int .i64 r] 37 (0, 0)) := (K.block q (block_lt hR.hp) (fun e => hR.nu q e rfl)).trans hR.hp
  have hv6 := hR.hv.keep K (fun x hx e => hR.vu x hx e)
  have KP := (Keep.refl (fun z => z = q) w2).setCell (p := ⟨q, 2, none⟩) (fun _ => rfl) (.slice a2 l2 c2)
  have hn : ∀ {e : TypeId} {α : Type} {E : Enc α} {z : Value} {X : List α}, OwnL E w2 B e z X → e ≠ 37 → ∀ x, z.ownBlock = some x → x ≠ q := fun hz he x hx => by
    obtain ⟨c, hc⟩ := own_typ hz hx
    exact typ_ne hc hq6 he
  refine ⟨.slice a2 l2 c2, ⟨?_, hv6.keep KP (hn hv6 (by decide)), ho.keep KP (hn ho (by decide)), hR.hl, by simp; omega, hR.hr⟩, ?_, hf⟩
  · rw [heap_setCell_eq hq6]; rfl
  · exact (K.mono (fun _ _ h => .inr h)).on KP fun z _ hz => .inl hz

theorem ov_of {f z xf zx : Nat} (hz : 1 ≤ z) (h : ∀ k, k < z → ¬ (xf ≤ f + k ∧ f + k < xf + zx)) (hx : 1 ≤ zx) : ¬ (f < xf + zx ∧ xf < f + z) := by
  rintro ⟨h1, h2⟩
  by_cases e : f ≤ xf
  · exact h (xf - f) (by omega) (by omega)
  · exact h 0 (by omega) (by omega)

set_option maxRecDepth 100000 in
set_option maxHeartbeats 4000000 in
theorem framesX_any (B q : Nat) (m : Int) (v u : Value) (P : List Sp) (Q : List Bk) (r : Int) (b : Bk) (hb : okB b) (hQ : ∀ x, x ∈ Q → inR x) (hql : Q.length ≤ 100) (w : World) (hB : B ≤ w.heap.size) (hR : RepX w B q m v u P Q r) :
    Calls Try.prog 27 #[.pointer (some ⟨q, 0, none⟩), .agg #[.int .i64 b.f, .int .i64 b.o]] w (FrX w B q m v u P Q r b) := by
  have HQ := Lib.hid hQ
  have HRR := Lib.hid hR
  obtain ⟨au, cu, rfl, hag⟩ := hR.hu.slice
  have HAG := Lib.hid hag
  clear hag hQ
  obtain ⟨f, o⟩ := b
  unfold okB inR sz at hb
  simp only at hb ⊢
  obtain ⟨⟨h1, h2, h3, h4⟩, h8⟩ := hb
  obtain ⟨o, rfl⟩ := Int.eq_ofNat_of_zero_le h1
  obtain ⟨f, rfl⟩ := Int.eq_ofNat_of_zero_le h3
  have KW : Hid (Keep (fun _ => False) w (w.alloc (.cells #[.int .i64 (f : Int), .int .i64 (o : Int)] 48))) := (Keep.refl _ _).alloc _
  have HW := Lib.hid (heap_alloc_new w (.cells #[.int .i64 (f : Int), .int .i64 (o : Int)] 48))
  obtain ⟨n0, n1⟩ := cells2 HW.out
  obtain ⟨c0, c1, c2, c3⟩ := (hR.keep0 KW.out).cs
  rw [Int.toNat_natCast] at h4 h8
  have hs := sz_bd o (by omega)
  obtain ⟨z, hz⟩ : ∃ z, 2 ^ o = z := ⟨_, rfl⟩
  have hsq : Hid (∀ W, Calls Try.prog 19 #[.int .i64 (o : Int)] W fun e w' => e = .returned (.int .i64 (z : Int)) ∧ w' = W) := size_q o z (by omega) hz
  have HZ : Hid (sz ⟨f, o⟩ = z) := by unfold Hid sz; rw [Int.toNat_natCast]; exact hz
  rw [hz] at h4 hs h8
  clear hz hR
  have t1 : decide ((o : Int) < 0) = false := decide_eq_false (by omega)
  have t2 : decide (8 < (o : Int)) = false := decide_eq_false (by omega)
  have t3 : decide ((f : Int) < 0) = false := decide_eq_false (by omega)
  have hq : IntKind.i64.wrap (1024 - (z : Int)) = 1024 - (z : Int) := IntWalk.i64_in _ (by omega)
  have t4 : decide (1024 - (z : Int) < (f : Int)) = false := decide_eq_false (by omega)
  have hrem := rem_run2 f z (by omega) (by omega) (by omega)
  have t5 : ((f : Int) % (z : Int) != 0) = false := by rw [bne_eq_false_iff_eq]; exact h8
  have t6 : (z : Int) ≠ 0 := by omega
  have h4' : f + z ≤ 1024 := by omega
  have h2' : o ≤ 8 := by omega
  clear h8 h1 h3 h4 h2 hrem
  go_enter Try.func27, Try.ntmps27
  go_wp2
  go_quiet ((go_at_call 19; exact Calls.quiet_of_same (hsq.out _)))
  go_wp2
  generalize hw8 : World.drewN _ _ = w8
  have K8 : Hid (Keep (fun _ => False) (w.alloc (.cells #[.int .i64 (f : Int), .int .i64 (o : Int)] 48)) w8) := by rw [← hw8]; exact (by (repeat (first | exact Keep.refl _ _ | exact Keep.refl _ _ | refine Keep.drew ?_ | refine Keep.drewN ?_ _ | refine Keep.alloc ?_ _ | refine Keep.setNew ?_ (by omega) _)); done)
  have hm : w8.cell? ⟨w.heap.size, 0, none⟩ = some (.int .i64 (f : Int)) ∧ w8.cell? ⟨w.heap.size, 1, none⟩ = some (.int .i64 (o : Int)) := by rw [← hw8]; exact ⟨n0, n1⟩
  obtain ⟨m0, m1⟩ := hm
  clear hw8 n0 n1
  go_quiet ((go_at_call 19; exact Calls.quiet_of_same (hsq.out _)))
  go_wp2
  generalize hw9 : World.drewN _ _ = w9
  have K9 : Hid (Keep (fun _ => False) (w.alloc (.cells #[.int .i64 (f : Int), .int .i64 (o : Int)] 48)) w9) := by rw [← hw9]; exact (by (repeat (first | exact K8.out | exact Keep.refl _ _ | refine Keep.drew ?_ | refine Keep.drewN ?_ _ | refine Keep.alloc ?_ _ | refine Keep.setNew ?_ (by omega) _)); done)
  clear hw9 m0 m1 c0 c1 c2 c3 t1 t2 t3 t4 t5 t6 hq
  have HW9 := Lib.hid ((K9.out.block _ (block_lt HW.out) id).trans HW.out)
  have K90 := Lib.hid (KW.out.trans K9.out)
  obtain ⟨n3, hn3⟩ : ∃ n, w.heap.size = n := ⟨_, rfl⟩
  rw [hn3] at HW9 ⊢
  have HN3 := Lib.hid hn3
  clear hn3
  go_loopw [5] (fun i wr => ∃ k : Nat, k ≤ Q.length ∧ i = .int .i64 k ∧ (Q.take k).any (ov ⟨f, o⟩) = false ∧ Keep (fun _ => False) w9 wr) (fun i _ => Q.length - (intOf i).toNat)
  case atStart => exact ⟨0, by omega, rfl, rfl, Keep.refl _ _⟩
  case round =>
    obtain ⟨k, hk, rfl, hany, hkeep⟩ := hrel
    have HA := Lib.hid hany
    have HK := Lib.hid hkeep
    have HKW := Lib.hid (K90.out.trans hkeep)
    have HWr := Lib.hid ((hkeep.block _ (block_lt HW9.out) id).trans HW9.out)
    have HR1 := Lib.hid (HRR.out.keep0 (K90.out.trans hkeep))
    obtain ⟨c0, c1, c2, c3⟩ := HR1.out.cs
    clear hany hkeep c0 c1 c3
    by_cases hlt : k < Q.length
    · obtain ⟨g, rfl⟩ := HAG.out (by intro e; rw [e] at hlt; simp at hlt)
      have hxr := HQ.out _ (List.getElem_mem hlt)
      have htk : Hid ((Q.take (k + 1)).any (ov ⟨f, o⟩) = ((Q.take k).any (ov ⟨f, o⟩) || ov ⟨f, o⟩ Q[k])) := by
        unfold Hid; rw [List.take_succ_eq_append_getElem hlt, List.any_append]; simp
      have hmem := Lib.hid (List.getElem_mem hlt)
      have hcell := Lib.hid (fun (W : World) (h : Keep (fun _ => False) w W) => bk_cells (HRR.out.keep0 h).hu hlt)
      obtain ⟨x, hx⟩ : ∃ x, Q[k] = x := ⟨_, rfl⟩
      rw [hx] at hcell hxr htk hmem
      clear hx
      obtain ⟨xf, xo⟩ := x
      unfold inR sz at hxr
      simp only at hcell hxr
      obtain ⟨x1, x2, x3, x4⟩ := hxr
      obtain ⟨xo, rfl⟩ := Int.eq_ofNat_of_zero_le x1
      obtain ⟨xf, rfl⟩ := Int.eq_ofNat_of_zero_le x3
      rw [Int.toNat_natCast] at x4
      have xs := sz_bd xo (by omega)
      obtain ⟨zx, hzx⟩ : ∃ z, 2 ^ xo = z := ⟨_, rfl⟩
      have hsx : Hid (∀ W, Calls Try.prog 19 #[.int .i64 (xo : Int)] W fun e w' => e = .returned (.int .i64 (zx : Int)) ∧ w' = W) := size_q xo zx (by omega) hzx
      have HZX : Hid (sz ⟨xf, xo⟩ = zx) := by unfold Hid sz; rw [Int.toNat_natCast]; exact hzx
      rw [hzx] at x4 xs
      clear hzx
      have x4' : xf + zx ≤ 1024 := by omega
      have hOv : Hid (ov ⟨f, o⟩ ⟨xf, xo⟩ = (decide (f < xf + zx) && decide (xf < f + z))) := by
        unfold Hid ov; rw [HZ.out, HZX.out]
        simp only [Bool.and_eq_decide, decide_eq_true_eq]
        congr 1
        apply propext
        omega
      clear x1 x2 x3 x4
      go_wp2
      go_loopw [6] (fun i w7 => ∃ j : Nat, j ≤ z ∧ i = .int .i64 j ∧ (∀ t, t < j → ¬ (xf ≤ f + t ∧ f + t < xf + zx)) ∧ Keep (fun _ => False) w9 w7) (fun i _ => z - (intOf i).toNat)
      case atStart => exact ⟨0, by omega, rfl, fun t h => by omega, HK.out⟩
      case round =>
        obtain ⟨j, hj, rfl, hno, hkj⟩ := hrel
        have HNO := Lib.hid hno
        have HKJ := Lib.hid hkj
        have HKWJ := Lib.hid (K90.out.trans hkj)
        have HR2 := Lib.hid (HRR.out.keep0 (K90.out.trans hkj))
        have HW2 := Lib.hid ((hkj.block _ (block_lt HW9.out) id).trans HW9.out)
        clear hno hkj
        obtain ⟨n0, n1⟩ := cells2 HW2.out
        obtain ⟨e0, e1, e2, e3⟩ := HR2.out.cs
        obtain ⟨d0, d1⟩ := hcell.out _ HKWJ.out
        clear e0 e1 e3
        by_cases hjz : j < z
        · have s1 : IntKind.i64.wrap ((f : Int) + (j : Int)) = ((f + j : Nat) : Int) := by rw [← Int.natCast_add]; exact IntWalk.i64_in _ (by omega)
          have s2 : IntKind.i64.wrap ((xf : Int) + (zx : Int)) = ((xf + zx : Nat) : Int) := by rw [← Int.natCast_add]; exact IntWalk.i64_in _ (by omega)
          have hjz' : (j : Int) < (z : Int) := Int.ofNat_lt.mpr hjz
          obtain ⟨g1, hg1⟩ : ∃ g, f + j = g := ⟨_, rfl⟩
          obtain ⟨g2, hg2⟩ : ∃ g, xf + zx = g := ⟨_, rfl⟩
          rw [hg1] at s1
          rw [hg2] at s2
          have HG := Lib.hid (And.intro hg1 hg2)
          have hkq : (k : Int) < (Q.length : Int) := Int.ofNat_lt.mpr hlt
          have hk0 : (0 : Int) ≤ (k : Int) := Int.natCast_nonneg k
          clear hg1 hg2
          by_cases u1 : xf ≤ g1
          · have v1 : decide ((xf : Int) ≤ (g1 : Int)) = true := decide_eq_true (by omega)
            by_cases u2 : g1 < g2
            · have v2 : decide ((g1 : Int) < (g2 : Int)) = true := decide_eq_true (by omega)
              have HH : Hid (Q.any (ov ⟨f, o⟩) = true) := by
                unfold Hid; rw [List.any_eq_true]; refine ⟨_, hmem.out, ?_⟩
                rw [hOv.out, decide_eq_true (by have := HG.out; omega), decide_eq_true (by have := HG.out; omega)]; rfl
              go_wp2_with (go_at_call 19; refine (hsq.out _).mono ?_; rintro e w5 ⟨rfl, hw5⟩; rw [hw5]; clear hw5)
              go_quiet ((go_at_call 19; exact Calls.quiet_of_same (hsx.out _)))
              go_wp2
              go_ret
              exact ⟨fun _ => ⟨rfl, (by (repeat (first | exact HKWJ.out | exact Keep.refl _ _ | refine Keep.drew ?_ | refine Keep.drewN ?_ _ | refine Keep.alloc ?_ _ | refine Keep.setNew ?_ (by omega) _)); done)⟩, fun h => by rw [HH.out] at h; cases h⟩
            · have v2 : decide ((g1 : Int) < (g2 : Int)) = false := decide_eq_false (by omega)
              have HH : Hid (∀ t, t < j + 1 → ¬ (xf ≤ f + t ∧ f + t < xf + zx)) := fun t ht => by
                by_cases e : t = j
                · subst e; have := HG.out; omega
                · exact HNO.out t (by omega)
              go_wp2_with (go_at_call 19; refine (hsq.out _).mono ?_; rintro e w5 ⟨rfl, hw5⟩; rw [hw5]; clear hw5)
              go_quiet ((go_at_call 19; exact Calls.quiet_of_same (hsx.out _)))
              go_wp2
              go_roundw
              case rel => exact ⟨j + 1, by omega, by go_num, HH.out, (by (repeat (first | exact HKJ.out | exact Keep.refl _ _ | refine Keep.drew ?_ | refine Keep.drewN ?_ _ | refine Keep.alloc ?_ _ | refine Keep.setNew ?_ (by omega) _)); done)⟩
              case measure => simp [intOf]; omega
          · have v1 : decide ((xf : Int) ≤ (g1 : Int)) = false := decide_eq_false (by omega)
            have HH : Hid (∀ t, t < j + 1 → ¬ (xf ≤ f + t ∧ f + t < xf + zx)) := fun t ht => by
              by_cases e : t = j
              · subst e; have := HG.out; omega
              · exact HNO.out t (by omega)
            go_wp2_with (go_at_call 19; refine (hsq.out _).mono ?_; rintro e w5 ⟨rfl, hw5⟩; rw [hw5]; clear hw5)
            go_quiet ((go_at_call 19; exact Calls.quiet_of_same (hsx.out _)))
            go_wp2
            go_roundw
            case rel => exact ⟨j + 1, by omega, by go_num, HH.out, (by (repeat (first | exact HKJ.out | exact Keep.refl _ _ | refine Keep.drew ?_ | refine Keep.drewN ?_ _ | refine Keep.alloc ?_ _ | refine Keep.setNew ?_ (by omega) _)); done)⟩
            case measure => simp [intOf]; omega
        · obtain rfl : j = z := by omega
          have HH : Hid ((Q.take (k + 1)).any (ov ⟨f, o⟩) = false) := by
            unfold Hid; rw [htk.out, HA.out, hOv.out]
            have := ov_of (by omega) HNO.out (by omega)
            rw [Bool.false_or, Bool.and_eq_false_iff, decide_eq_false_iff_not, decide_eq_false_iff_not]
            omega
          go_wp2_with (go_at_call 19; refine (hsq.out _).mono ?_; rintro e w5 ⟨rfl, hw5⟩; rw [hw5]; clear hw5)
          go_roundw
          case rel => exact ⟨k + 1, by omega, by go_num, HH.out, (by (repeat (first | exact HKJ.out | exact Keep.refl _ _ | refine Keep.drew ?_ | refine Keep.drewN ?_ _ | refine Keep.alloc ?_ _ | refine Keep.setNew ?_ (by omega) _)); done)⟩
          case measure => simp [intOf]; omega
    · obtain rfl : k = Q.length := by omega
      have HA2 : Hid (Q.any (ov ⟨f, o⟩) = false) := by have h := HA.out; rw [List.take_length] at h; exact h
      have hpl := block_lt HR1.out.hp
      have fz : wr.frozen? ⟨q, 2, none⟩ = false := frozen_block HR1.out.hp
      have HNc := Lib.hid (cells2 HWr.out)
      have hqn := HR1.out.nu
      have hun : ¬ (Value.slice au Q.length cu).ownBlock = some n3 := fun e => by have := (HRR.out.hu.lt n3 e).2; have := HN3.out; omega
      have hun2 : ¬ (Value.slice au Q.length cu).ownBlock = some q := fun e => hqn q e rfl
      have HUN := Lib.hid (And.intro hun hun2)
      have hsw := HKW.out.size
      have hpl3 := block_lt HWr.out
      clear hqn hun hun2
      go_wp2
      refine wp_region_noPanic ?_
      refine wp_region_L (fun w' => w'.cell? ⟨q, 2, none⟩ = some (.slice au Q.length cu) ∧ w'.frozen? ⟨q, 2, none⟩ = false ∧ w'.cell? ⟨n3, 0, none⟩ = some (.int .i64 (f : Int)) ∧ w'.cell? ⟨n3, 1, none⟩ = some (.int .i64 (o : Int))) 10 (by kernel_rfl) (by (refine sX (S := fun z => (Value.slice au Q.length cu).ownBlock = some z) ?_ HUN.out.2 HUN.out.1 c2 fz HNc.out; (repeat (first | exact HK96.out | exact Keep.refl _ _ | refine Keep.drew ?_ | refine Keep.drewN ?_ _ | refine Keep.alloc ?_ _ | refine Keep.setNew ?_ (by omega) _)); done)) (fun hS0 => ?_)
      refine wpAnyL_take 0 (v := ?_) rfl (by kernel_rfl) (by kernel_rfl) (by kernel_rfl) (by kernel_rfl) (fun _ _ _ h => h) (Or.inl ⟨by rfl, ?_⟩) (by assumption) ?_
      rotate_left
      · (intro w hSw; (try dsimp only at hSw); go_split_ands; go_simp; try (with_reducible rfl))
      simp only [Act.put, List.setIfInBounds_toArray, List.set_cons_zero, List.set_cons_succ]
      refine wpAnyL_take 1 (v := ?_) rfl (by kernel_rfl) (by kernel_rfl) (by kernel_rfl) (by kernel_rfl) (fun _ _ _ h => h) (Or.inl ⟨by rfl, ?_⟩) (by assumption) ?_
      rotate_left
      · (intro w hSw; (try dsimp only at hSw); go_split_ands; go_simp; try (with_reducible rfl))
      simp only [Act.put, List.setIfInBounds_toArray, List.set_cons_zero, List.set_cons_succ]
      refine wpAnyL_take 2 (v := ?_) rfl (by kernel_rfl) (by kernel_rfl) (by kernel_rfl) (by kernel_rfl) (fun _ _ _ h => h) (Or.inl ⟨by rfl, ?_⟩) (by assumption) ?_
      rotate_left
      · (intro w hSw; (try dsimp only at hSw); go_split_ands; go_simp; try (with_reducible rfl))
      simp only [Act.put, List.setIfInBounds_toArray, List.set_cons_zero, List.set_cons_succ]
      refine wpAnyL_take 3 (v := ?_) rfl (by kernel_rfl) (by kernel_rfl) (by kernel_rfl) (by kernel_rfl) (fun _ _ _ h => h) (Or.inl ⟨by rfl, ?_⟩) (by assumption) ?_
      rotate_left
      · (intro w hSw; (try dsimp only at hSw); go_split_ands; go_simp; try (with_reducible rfl))
      simp only [Act.put, List.setIfInBounds_toArray, List.set_cons_zero, List.set_cons_succ]
      refine wpAnyL_take 4 (v := ?_) rfl (by kernel_rfl) (by kernel_rfl) (by kernel_rfl) (by kernel_rfl) (fun _ _ _ h => h) (Or.inl ⟨by rfl, ?_⟩) (by assumption) ?_
      rotate_left
      · (intro w hSw; (try dsimp only at hSw); go_split_ands; go_simp; try (with_reducible rfl))
      simp only [Act.put, List.setIfInBounds_toArray, List.set_cons_zero, List.set_cons_succ]
      refine wpAnyL_take 5 (v := ?_) rfl (by kernel_rfl) (by kernel_rfl) (by kernel_rfl) (by kernel_rfl) (fun _ _ _ h => h) (Or.inl ⟨by rfl, ?_⟩) (by assumption) ?_
      rotate_left
      · (intro w hSw; (try dsimp only at hSw); go_split_ands; go_simp; try (with_reducible rfl))
      simp only [Act.put, List.setIfInBounds_toArray, List.set_cons_zero, List.set_cons_succ]
      refine wpAnyL_ready (rs := [6]) (by kernel_rfl) (by simp) ?_
      refine AllReadyL.cons rfl (fun K hK => ?_) ?_
      · go_simp
        refine hK.out _ _ (.inr (by (refine sX (S := fun z => (Value.slice au Q.length cu).ownBlock = some z) ?_ HUN.out.2 HUN.out.1 c2 fz HNc.out; (repeat (first | exact HK96.out | exact Keep.refl _ _ | refine Keep.drew ?_ | refine Keep.drewN ?_ _ | refine Keep.alloc ?_ _ | refine Keep.setNew ?_ (by omega) _)); done))) (fun hS6 => ?_)
        replace hS6 := hS6.resolve_left (by decide)
        try simp only [Act.put, List.setIfInBounds_toArray, List.set_cons_zero, List.set_cons_succ]
        refine wpAnyL_ready (rs := [7]) (by kernel_rfl) (by simp) ?_
        refine AllReadyL.cons rfl (fun K hK => ?_) ?_
        · refine step_appF et29 rfl (.tmp 93) (.tmp 95) rfl B (.slice au Q.length cu) Q.length (bkE.cs Q) (by rfl) (OwnL.keep (S := fun _ => False) HR1.out.hu (by (repeat (first | exact Keep.refl _ _ | exact Keep.refl _ _ | refine Keep.drew ?_ | refine Keep.drewN ?_ _ | refine Keep.alloc ?_ _ | refine Keep.setNew ?_ (by omega) _)); done) (fun _ _ => id)) ⟨wr.heap.size, 0, none⟩ 1 1 [.int .i64 (f : Int), .int .i64 (o : Int)] (by rfl) rfl (fun j z hj => row_new (W := wr.drew) j z hj) (by simp [Value.oneCell']) (by unfold maxLen; omega) (by omega) (by simp; omega) ?_
          intro v96 w96 ho96 hg96 hf96
          obtain ⟨a96, l96, c96, rfl⟩ := own_slice ho96
          have HK96 : Hid (Keep (fun z => (Value.slice au Q.length cu).ownBlock = some z) wr w96) := Keep.grown (by (repeat (first | exact Keep.refl _ _ | exact Keep.refl _ _ | refine Keep.drew ?_ | refine Keep.drewN ?_ _ | refine Keep.alloc ?_ _ | refine Keep.setNew ?_ (by omega) _)); done) hg96 (fun x h1 h2 => h1)
          have HO96 : Hid (OwnL bkE w96 B 48 (.slice a96 l96 c96) (Q ++ [⟨(f : Int), (o : Int)⟩])) := by unfold Hid OwnL; rw [List.length_append, bkE.cs_append, bkE.cs_one]; exact ho96
          have HF96 : Hid (∀ x, (Value.slice a96 l96 c96).ownBlock = some x → (Value.slice au Q.length cu).ownBlock = some x ∨ wr.heap.size ≤ x) := fun x hx => (hf96 x hx).imp id (fun h => by simp at h; omega)
          clear ho96 hg96 hf96
          refine hK.out _ _ (.inr (by (refine sX (S := fun z => (Value.slice au Q.length cu).ownBlock = some z) ?_ HUN.out.2 HUN.out.1 c2 fz HNc.out; (repeat (first | exact HK96.out | exact Keep.refl _ _ | refine Keep.drew ?_ | refine Keep.drewN ?_ _ | refine Keep.alloc ?_ _ | refine Keep.setNew ?_ (by omega) _)); done))) (fun hS7 => ?_)
          replace hS7 := hS7.resolve_left (by decide)
          try simp only [Act.put, List.setIfInBounds_toArray, List.set_cons_zero, List.set_cons_succ]
          refine wpAnyL_ready (rs := [8]) (by kernel_rfl) (by simp) ?_
          refine AllReadyL.cons rfl (fun K hK => ?_) ?_
          · go_simp
            refine hK.out _ _ (.inr (by (refine sX (S := fun z => (Value.slice au Q.length cu).ownBlock = some z) ?_ HUN.out.2 HUN.out.1 c2 fz HNc.out; (repeat (first | exact HK96.out | exact Keep.refl _ _ | refine Keep.drew ?_ | refine Keep.drewN ?_ _ | refine Keep.alloc ?_ _ | refine Keep.setNew ?_ (by omega) _)); done))) (fun hS8 => ?_)
            replace hS8 := hS8.resolve_left (by decide)
            try simp only [Act.put, List.setIfInBounds_toArray, List.set_cons_zero, List.set_cons_succ]
            refine wpAnyL_take 9 (v := ?_) rfl (by kernel_rfl) (by kernel_rfl) (by kernel_rfl) (by kernel_rfl) (fun _ _ _ h => h) (Or.inl ⟨by rfl, ?_⟩) (by assumption) ?_
            rotate_left
            · (intro w hSw; (try dsimp only at hSw); go_split_ands; go_simp; try (with_reducible rfl))
            simp only [Act.put, List.setIfInBounds_toArray, List.set_cons_zero, List.set_cons_succ]
            refine wpAnyL_ready (rs := [10]) (by kernel_rfl) (by simp) ?_
            refine AllReadyL.cons rfl (fun K hK => ?_) ?_
            · go_simp
              refine hK.out _ _ (.inl rfl) (fun _ => ?_)
              try simp only [Act.put, List.setIfInBounds_toArray, List.set_cons_zero, List.set_cons_succ]
              refine wpAnyL_done (by kernel_rfl) ?_ _
              refine NoPanic.normal ?_
              have hq9 := framesX_close HR1.out (by omega) HK96.out HO96.out HF96.out
              have HQ9 := Lib.hid hq9
              clear hq9
              go_wp2
              go_ret
              refine ⟨fun h => by rw [HA2.out] at h; (cases h), fun _ => ⟨rfl, ?_⟩⟩
              obtain ⟨u', g1, g2, g3⟩ := HQ9.out
              exact ⟨u', g1, ((HKW.out.mono (fun _ _ h => h.elim)).trans g2), fun x hx => (g3 x hx).imp id (fun h => by have := HKW.out.size; omega)⟩
            exact AllReadyL.nil
          exact AllReadyL.nil
        exact AllReadyL.nil
      exact AllReadyL.nil

end Go.Proofs.Ytibcfglfcoljgaa
