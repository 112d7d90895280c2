/- Gather: Frames at large. -/
import Derived.Test.YtibcfglfcoljgaaG
import Derived.Test.YtibcfglfcoljgaaD
set_option linter.unusedVariables false
set_option linter.unusedSimpArgs false
namespace Go.Proofs.Ytibcfglfcoljgaa
open Go.RowKit Go.Own

def sz (b : Bk) : Nat := 2 ^ b.o.toNat
/-- A block within the frames. -/
def inR (b : Bk) : Prop := 0 ≤ b.o ∧ b.o ≤ 8 ∧ 0 ≤ b.f ∧ b.f + sz b ≤ 1024
/-- .. that lies even. -/
def okB (b : Bk) : Prop := inR b ∧ b.f % sz b = 0
def ov (a b : Bk) : Bool := decide (a.f < b.f + sz b) && decide (b.f < a.f + sz a)

theorem sz_bd (o : Nat) (h : o ≤ 8) : 1 ≤ 2 ^ o ∧ 2 ^ o ≤ 256 :=
  ⟨Nat.pow_pos (by decide), by have := Nat.pow_le_pow_right (show 0 < 2 by decide) h; omega⟩
theorem w64 (x : Int) (h : -9223372036854775808 ≤ x ∧ x ≤ 9223372036854775807) : wrap64 x = x := by unfold wrap64; omega
theorem pw64 (o : Nat) (h : o ≤ 8) : wrap64 ((2 : Int) ^ o) = ((2 ^ o : Nat) : Int) := by
  have h1 := sz_bd o h
  have e : ((2 ^ o : Nat) : Int) = (2 : Int) ^ o := by simp
  rw [w64 _ (by rw [← e]; omega), e]
theorem and_pow : ∀ o : Fin 9, ∀ f : Fin 1024, bits .and .i64 (f.val : Int) (((2 ^ o.val : Nat) : Int) - 1) = ((f.val % 2 ^ o.val : Nat) : Int) := by decide +kernel

set_option maxHeartbeats 1000000 in
theorem frames_range (p : Nat) (b : Bk) (h : ¬ inR b) (w : World) :
    Calls Try.prog 18 #[.pointer (some ⟨p, 0, none⟩), .agg #[.int .i64 b.f, .int .i64 b.o]] w fun e w' => e = .returned (.int .i64 3) ∧ Keep (fun _ => False) w w' := by
  obtain ⟨f, o⟩ := b
  have HN := Lib.hid (cells2 (heap_alloc_new w (.cells #[.int .i64 f, .int .i64 o] 48)))
  obtain ⟨n0, n1⟩ := HN.out
  unfold inR sz at h
  simp only at h ⊢
  by_cases h1 : o < 0
  · have t1 : decide (o < 0) = true := decide_eq_true h1
    clear h
    go_enter Try.func18, Try.ntmps18
    go_wp2
    go_quiet (fail)
    go_wp2
    go_ret
    exact ⟨rfl, (by (repeat (first | exact Keep.refl _ _ | exact Keep.refl _ _ | refine Keep.drew ?_ | refine Keep.drewN ?_ _ | refine Keep.alloc ?_ _ | refine Keep.setNew ?_ (by omega) _)); done)⟩
  have t1 : decide (o < 0) = false := decide_eq_false h1
  by_cases h2 : 8 < o
  · have t2 : decide (8 < o) = true := decide_eq_true h2
    clear h
    go_enter Try.func18, Try.ntmps18
    go_wp2
    go_quiet (fail)
    go_wp2
    go_ret
    exact ⟨rfl, (by (repeat (first | exact Keep.refl _ _ | exact Keep.refl _ _ | refine Keep.drew ?_ | refine Keep.drewN ?_ _ | refine Keep.alloc ?_ _ | refine Keep.setNew ?_ (by omega) _)); done)⟩
  have t2 : decide (8 < o) = false := decide_eq_false h2
  by_cases h3 : f < 0
  · have t3 : decide (f < 0) = true := decide_eq_true h3
    clear h
    go_enter Try.func18, Try.ntmps18
    go_wp2
    go_quiet (fail)
    go_wp2
    go_ret
    exact ⟨rfl, (by (repeat (first | exact Keep.refl _ _ | exact Keep.refl _ _ | refine Keep.drew ?_ | refine Keep.drewN ?_ _ | refine Keep.alloc ?_ _ | refine Keep.setNew ?_ (by omega) _)); done)⟩
  have t3 : decide (f < 0) = false := decide_eq_false h3
  obtain ⟨o, rfl⟩ := Int.eq_ofNat_of_zero_le (show 0 ≤ o by omega)
  have hs := sz_bd o (by omega)
  have hp := pw64 o (by omega)
  rw [Int.toNat_natCast] at h
  obtain ⟨z, hz⟩ : ∃ z, 2 ^ o = z := ⟨_, rfl⟩
  rw [hz] at h hs hp
  clear hz
  have hq : wrap64 (1024 - (z : Int)) = 1024 - (z : Int) := w64 _ (by omega)
  have t4 : decide (1024 - (z : Int) < f) = true := by rw [decide_eq_true_eq]; omega
  clear h
  go_enter Try.func18, Try.ntmps18
  go_wp2
  go_quiet (fail)
  go_wp2
  go_ret
  exact ⟨rfl, (by (repeat (first | exact Keep.refl _ _ | exact Keep.refl _ _ | refine Keep.drew ?_ | refine Keep.drewN ?_ _ | refine Keep.alloc ?_ _ | refine Keep.setNew ?_ (by omega) _)); done)⟩

set_option maxHeartbeats 1000000 in
theorem frames_align (p : Nat) (b : Bk) (h : inR b) (h8 : b.f % sz b ≠ 0) (w : World) :
    Calls Try.prog 18 #[.pointer (some ⟨p, 0, none⟩), .agg #[.int .i64 b.f, .int .i64 b.o]] w fun e w' => e = .returned (.int .i64 4) ∧ Keep (fun _ => False) w w' := by
  obtain ⟨f, o⟩ := b
  have HN := Lib.hid (cells2 (heap_alloc_new w (.cells #[.int .i64 f, .int .i64 o] 48)))
  unfold inR sz at h
  unfold sz at h8
  simp only at h h8 ⊢
  obtain ⟨h1, h2, h3, h4⟩ := h
  obtain ⟨n0, n1⟩ := HN.out
  have hs := sz_bd o.toNat (by omega)
  have hp := pw64 o.toNat (by omega)
  have ha := and_pow ⟨o.toNat, by omega⟩ ⟨f.toNat, by omega⟩
  simp only [Int.toNat_of_nonneg h3] at ha
  obtain ⟨z, hz⟩ : ∃ z, 2 ^ o.toNat = z := ⟨_, rfl⟩
  rw [hz] at h4 hs hp h8 ha
  clear hz
  have t1 : decide (o < 0) = false := decide_eq_false (by omega)
  have t2 : decide (8 < o) = false := decide_eq_false (by omega)
  have t3 : decide (f < 0) = false := decide_eq_false (by omega)
  have hq : wrap64 (1024 - (z : Int)) = 1024 - (z : Int) := w64 _ (by omega)
  have hq2 : wrap64 ((z : Int) - 1) = (z : Int) - 1 := w64 _ (by omega)
  have t4 : decide (1024 - (z : Int) < f) = false := decide_eq_false (by omega)
  have e5 : ((f.toNat % z : Nat) : Int) = f % (z : Int) := by rw [Int.natCast_emod, Int.toNat_of_nonneg h3]
  rw [e5] at ha
  have t5 : (f % (z : Int) != 0) = true := by rw [bne_iff_ne]; exact h8
  clear h4 h8 e5
  go_enter Try.func18, Try.ntmps18
  go_wp2
  go_quiet (fail)
  go_wp2
  go_quiet (fail)
  go_wp2
  go_ret
  exact ⟨rfl, (by (repeat (first | exact Keep.refl _ _ | exact Keep.refl _ _ | refine Keep.drew ?_ | refine Keep.drewN ?_ _ | refine Keep.alloc ?_ _ | refine Keep.setNew ?_ (by omega) _)); done)⟩

theorem keep_cellA' {S : Nat → Prop} {w w' : World} (h : Keep S w w') {b : Addr} {j : Nat} (hb : b.block < w.heap.size) (hs : ¬ S b.block) : w'.cell? (b.add j) = w.cell? (b.add j) := by
  have e : (b.add j).block = b.block := by unfold Addr.add; split <;> rfl
  exact World.cell?_of_block (w := w) (h.block _ (by rw [e]; exact hb) (by rw [e]; exact hs))

def FramesC (w : World) (B p : Nat) (m : Int) (v : Value) (L : List Fl) (Q : List Bk) (r : Int) (b : Bk) (e : Ending) (w' : World) : Prop :=
  (Q.any (ov b) = true → e = .returned (.int .i64 7) ∧ Keep (fun _ => False) w w') ∧
  (Q.any (ov b) = false → e = .returned (.int .i64 0) ∧ ∃ u', RepH w' B p m v u' L (Q ++ [b]) r ∧ Keep (fun z => z = p) w w' ∧ ∀ x, u'.ownBlock = some x → w.heap.size ≤ x)

theorem frames_close {w w2 : World} {B p n : Nat} {m : Int} {v u : Value} {L : List Fl} {Q Q' : List Bk} {r : Int} {a2 : Option Addr} {l2 c2 : Nat} {xs : List Value} (hR : RepH w B p m v u L Q r) (hB : B ≤ w.heap.size) (hl : Q'.length ≤ 200)
    (HK2 : Keep (fun _ => False) w w2) (HO2 : w2.ownsRow w.heap.size 48 bkE.k (.slice a2 l2 c2) n xs) (hn : n = Q'.length) (hxs : xs = bkE.cs Q') :
    ∃ u', RepH (w2.setCell ⟨p, 2, none⟩ (.slice a2 l2 c2)) B p m v u' L Q' r ∧ Keep (fun x => x = p) w (w2.setCell ⟨p, 2, none⟩ (.slice a2 l2 c2)) ∧ ∀ x, u'.ownBlock = some x → w.heap.size ≤ x := by
  subst hn; subst hxs
  have hpl := block_lt hR.hp
  have hO : OwnL bkE w2 B 48 (.slice a2 l2 c2) Q' := ownsRow_base HO2 (C := B) (fun x hx => by have := (HO2.lt x hx).1; omega)
  have hlt2 := HO2.lt
  have KP := (Keep.refl (fun x => x = p) w2).setCell (p := ⟨p, 2, none⟩) (fun _ => rfl) (.slice a2 l2 c2)
  refine ⟨.slice a2 l2 c2, ⟨?_, ?_, ?_, hR.nv, ?_, hR.hl, hl, hR.hr⟩, (HK2.mono (T := fun x => x = p) (fun _ _ h => h.elim)).setCell (fun _ => rfl) _, fun x hx => (hlt2 x hx).1⟩
  · rw [heap_setCell_eq ((HK2.block p hpl id).trans hR.hp)]; simp
  · exact (hR.hv.keep HK2 (fun _ _ => id)).keep KP (fun x hx e => hR.nv (e ▸ hx))
  · exact hO.keep KP (fun x hx => by have := (hlt2 x hx).1; omega)
  · intro e; have := (hlt2 p e).1; omega

set_option maxRecDepth 100000 in
set_option maxHeartbeats 4000000 in
theorem frames_any (B p : Nat) (m : Int) (v u : Value) (L : List Fl) (Q : List Bk) (r : Int) (b : Bk) (hb : okB b) (hQ : ∀ x, x ∈ Q → inR x) (hql : Q.length ≤ 100) (w : World) (hB : B ≤ w.heap.size) (hR : RepH w B p m v u L Q r) :
    Calls Try.prog 18 #[.pointer (some ⟨p, 0, none⟩), .agg #[.int .i64 b.f, .int .i64 b.o]] w (FramesC w B p m v L Q r b) := by
  have HQ := Lib.hid hQ
  have HRR := Lib.hid hR
  have HOB := Lib.hid hb
  obtain ⟨au, cu, rfl, hag⟩ := hR.hu.slice
  have HAG := Lib.hid hag
  clear hag hQ
  obtain ⟨f, o⟩ := b
  have KW : Hid (Keep (fun _ => False) w (w.alloc (.cells #[.int .i64 f, .int .i64 o] 48))) := (Keep.refl _ _).alloc _
  have HW := Lib.hid (heap_alloc_new w (.cells #[.int .i64 f, .int .i64 o] 48))
  obtain ⟨n0, n1⟩ := cells2 HW.out
  obtain ⟨c0, c1, c2, c3⟩ := (hR.keep0 KW.out).cs
  unfold okB inR sz at hb
  simp only at hb ⊢
  obtain ⟨⟨h1, h2, h3, h4⟩, h8⟩ := hb
  have hs := sz_bd o.toNat (by omega)
  have hp := pw64 o.toNat (by omega)
  have ha := and_pow ⟨o.toNat, by omega⟩ ⟨f.toNat, by omega⟩
  simp only [Int.toNat_of_nonneg h3] at ha
  obtain ⟨z, hz⟩ : ∃ z, 2 ^ o.toNat = z := ⟨_, rfl⟩
  rw [hz] at h4 hs hp h8 ha
  have HZ : Hid (sz ⟨f, o⟩ = z) := hz
  clear hz hR
  have t1 : decide (o < 0) = false := decide_eq_false (by omega)
  have t2 : decide (8 < o) = false := decide_eq_false (by omega)
  have t3 : decide (f < 0) = false := decide_eq_false (by omega)
  have hq : wrap64 (1024 - (z : Int)) = 1024 - (z : Int) := w64 _ (by omega)
  have hq2 : wrap64 ((z : Int) - 1) = (z : Int) - 1 := w64 _ (by omega)
  have t4 : decide (1024 - (z : Int) < f) = false := decide_eq_false (by omega)
  have e5 : ((f.toNat % z : Nat) : Int) = f % (z : Int) := by rw [Int.natCast_emod, Int.toNat_of_nonneg h3]
  rw [e5] at ha
  have t5 : (f % (z : Int) != 0) = false := by rw [bne_eq_false_iff_eq]; exact h8
  clear e5
  clear h8
  go_enter Try.func18, Try.ntmps18
  go_wp2
  go_quiet (fail)
  go_wp2
  go_quiet (fail)
  go_wp2
  generalize hw9 : World.drewN _ _ = w9
  have K9 : Hid (Keep (fun _ => False) (w.alloc (.cells #[.int .i64 f, .int .i64 o] 48)) w9) := by rw [← hw9]; exact (by (repeat (first | exact Keep.refl _ _ | exact Keep.refl _ _ | refine Keep.drew ?_ | refine Keep.drewN ?_ _ | refine Keep.alloc ?_ _ | refine Keep.setNew ?_ (by omega) _)); done)
  clear hw9 n0 n1 c0 c1 c2 c3
  have HW9 := Lib.hid ((K9.out.block _ (block_lt HW.out) id).trans HW.out)
  have K90 := Lib.hid (KW.out.trans K9.out)
  obtain ⟨n3, hn3⟩ : ∃ n, w.heap.size = n := ⟨_, rfl⟩
  rw [hn3] at HW9 ⊢
  have HN3 := Lib.hid hn3
  clear hn3
  rw [hp]
  go_loopw [47] (fun i wr => ∃ k : Nat, k ≤ Q.length ∧ i = .int .i64 k ∧ (Q.take k).any (ov ⟨f, o⟩) = false ∧ Keep (fun _ => False) w9 wr) (fun i _ => Q.length - (intOf i).toNat)
  case atStart => exact ⟨0, by omega, rfl, rfl, Keep.refl _ _⟩
  case round =>
    obtain ⟨k, hk, rfl, hany, hkeep⟩ := hrel
    have HA := Lib.hid hany
    have HK := Lib.hid hkeep
    have HKW := Lib.hid (K90.out.trans hkeep)
    have HWr := Lib.hid ((hkeep.block _ (block_lt HW9.out) id).trans HW9.out)
    have HR1 := Lib.hid (HRR.out.keep0 (K90.out.trans hkeep))
    have hn3 := block_lt HWr.out
    clear hany hkeep
    by_cases hlt : k < Q.length
    · obtain ⟨g, rfl⟩ := HAG.out (by intro e; rw [e] at hlt; simp at hlt)
      obtain ⟨d0, d1⟩ := bk_cells HR1.out.hu hlt
      have hxr := HQ.out _ (List.getElem_mem hlt)
      have htk : Hid ((Q.take (k + 1)).any (ov ⟨f, o⟩) = ((Q.take k).any (ov ⟨f, o⟩) || ov ⟨f, o⟩ Q[k])) := by
        unfold Hid; rw [List.take_succ_eq_append_getElem hlt, List.any_append]; simp
      have hmem := Lib.hid (List.getElem_mem hlt)
      obtain ⟨x, hx⟩ : ∃ x, Q[k] = x := ⟨_, rfl⟩
      rw [hx] at d0 d1 hxr htk hmem
      clear hx
      obtain ⟨xf, xo⟩ := x
      unfold inR sz at hxr
      simp only at d0 d1 hxr
      obtain ⟨x1, x2, x3, x4⟩ := hxr
      have xs := sz_bd xo.toNat (by omega)
      have xp := pw64 xo.toNat (by omega)
      obtain ⟨zx, hzx⟩ : ∃ z, 2 ^ xo.toNat = z := ⟨_, rfl⟩
      rw [hzx] at x4 xs xp
      have HZX : Hid (sz ⟨xf, xo⟩ = zx) := hzx
      clear hzx
      have s1 : wrap64 (xf + (zx : Int)) = xf + (zx : Int) := w64 _ (by omega)
      have s2 : wrap64 (f + (z : Int)) = f + (z : Int) := w64 _ (by omega)
      have HWx : Hid ((wr.alloc (.cells #[.int .i64 xf, .int .i64 xo] 48)).heap[n3]? = some (.cells #[.int .i64 f, .int .i64 o] 48 (0, 0))) := by
        unfold Hid; rw [heap_alloc_at, if_neg (by omega)]; exact HWr.out
      obtain ⟨n0, n1⟩ := cells2 HWx.out
      obtain ⟨m0, m1⟩ := cells2 (heap_alloc_new wr (.cells #[.int .i64 xf, .int .i64 xo] 48))
      have hOv : Hid (ov ⟨f, o⟩ ⟨xf, xo⟩ = (decide (f < xf + zx) && decide (xf < f + z))) := by unfold Hid ov; rw [HZ.out, HZX.out]
      by_cases u1 : f < xf + zx
      · have v1 : decide (f < xf + zx) = true := decide_eq_true u1
        by_cases u2 : xf < f + z
        · have v2 : decide (xf < f + z) = true := decide_eq_true u2
          have HH : Hid (Q.any (ov ⟨f, o⟩) = true) := by
            unfold Hid; rw [List.any_eq_true]; exact ⟨_, hmem.out, by rw [hOv.out, v1, v2]; rfl⟩
          go_wp2
          go_quiet (fail)
          go_wp2
          go_ret
          exact ⟨fun _ => ⟨rfl, (by (repeat (first | exact HKW.out | exact Keep.refl _ _ | refine Keep.drew ?_ | refine Keep.drewN ?_ _ | refine Keep.alloc ?_ _ | refine Keep.setNew ?_ (by omega) _)); done)⟩, fun h => by rw [HH.out] at h; cases h⟩
        · have v2 : decide (xf < f + z) = false := decide_eq_false u2
          have HH : Hid ((Q.take (k + 1)).any (ov ⟨f, o⟩) = false) := by unfold Hid; rw [htk.out, HA.out, hOv.out, v1, v2]; rfl
          go_wp2
          go_quiet (fail)
          go_wp2
          go_roundw
          case rel => exact ⟨k + 1, by omega, by go_num, HH.out, (by (repeat (first | exact HK.out | exact Keep.refl _ _ | refine Keep.drew ?_ | refine Keep.drewN ?_ _ | refine Keep.alloc ?_ _ | refine Keep.setNew ?_ (by omega) _)); done)⟩
          case measure => simp [intOf]; omega
      · have v1 : decide (f < xf + zx) = false := decide_eq_false u1
        have HH : Hid ((Q.take (k + 1)).any (ov ⟨f, o⟩) = false) := by unfold Hid; rw [htk.out, HA.out, hOv.out, v1]; rfl
        go_wp2
        go_quiet (fail)
        go_wp2
        go_roundw
        case rel => exact ⟨k + 1, by omega, by go_num, HH.out, (by (repeat (first | exact HK.out | exact Keep.refl _ _ | refine Keep.drew ?_ | refine Keep.drewN ?_ _ | refine Keep.alloc ?_ _ | refine Keep.setNew ?_ (by omega) _)); done)⟩
        case measure => simp [intOf]; omega
    · obtain rfl : k = Q.length := by omega
      have HA2 : Hid (Q.any (ov ⟨f, o⟩) = false) := by have h := HA.out; rw [List.take_length] at h; exact h
      have hpl := block_lt HR1.out.hp
      obtain ⟨b0, b1, b2, b3⟩ := HR1.out.cs
      have fz : wr.frozen? ⟨p, 2, none⟩ = false := frozen_block HR1.out.hp
      have HNc := Lib.hid (cells2 HWr.out)
      obtain ⟨ao, hsl, hao, hcs⟩ := sl_full et29 HR1.out.hu
      have HAO := Lib.hid hao
      have HCS := Lib.hid hcs
      have hsw := HKW.out.size
      rw [HN3.out] at hsw
      clear hao hcs b0 b1 b3 t1 t2 t3 t4 t5 hq hq2 ha
      obtain ⟨i0, hi, hz0, hz1, hz2⟩ := info_parts et29.hi
      have HI := Lib.hid hi
      have HZ2 := Lib.hid (And.intro hz0 (And.intro hz1 hz2))
      clear hi hz0 hz1 hz2
      go_wp2
      refine wp_region_noPanic ?_
      refine wp_region_L (fun w' => w'.cell? ⟨p, 2, none⟩ = some (.slice au Q.length cu) ∧ w'.frozen? ⟨p, 2, none⟩ = false ∧ w'.cell? ⟨n3, 0, none⟩ = some (.int .i64 f) ∧ w'.cell? ⟨n3, 1, none⟩ = some (.int .i64 o)) 21 (by kernel_rfl) (by (refine sF ?_ b2 fz HNc.out; (repeat (first | exact HK90.out | exact Keep.refl _ _ | refine Keep.drew ?_ | refine Keep.drewN ?_ _ | refine Keep.alloc ?_ _ | refine Keep.setNew ?_ (by omega) _)); done)) (fun hS0 => ?_)
      refine wpAnyL_take 0 (v := ?_) rfl (by kernel_rfl) (by kernel_rfl) (by kernel_rfl) (by kernel_rfl) (fun _ _ _ h => h) (Or.inl ⟨by rfl, ?_⟩) (by assumption) ?_
      rotate_left
      · (intro w hSw; (try dsimp only at hSw); go_split_ands; go_simp; try (with_reducible rfl))
      simp only [Act.put, List.setIfInBounds_toArray, List.set_cons_zero, List.set_cons_succ]
      refine wpAnyL_take 1 (v := ?_) rfl (by kernel_rfl) (by kernel_rfl) (by kernel_rfl) (by kernel_rfl) (fun _ _ _ h => h) (Or.inl ⟨by rfl, ?_⟩) (by assumption) ?_
      rotate_left
      · (intro w hSw; (try dsimp only at hSw); go_split_ands; go_simp; try (with_reducible rfl))
      simp only [Act.put, List.setIfInBounds_toArray, List.set_cons_zero, List.set_cons_succ]
      refine wpAnyL_take 2 (v := ?_) rfl (by kernel_rfl) (by kernel_rfl) (by kernel_rfl) (by kernel_rfl) (fun _ _ _ h => h) (Or.inl ⟨by rfl, ?_⟩) (by assumption) ?_
      rotate_left
      · (intro w hSw; (try dsimp only at hSw); go_split_ands; go_simp; try (with_reducible rfl))
      simp only [Act.put, List.setIfInBounds_toArray, List.set_cons_zero, List.set_cons_succ]
      refine wpAnyL_take 3 (v := ?_) rfl (by kernel_rfl) (by kernel_rfl) (by kernel_rfl) (by kernel_rfl) (fun _ _ _ h => h) (Or.inl ⟨by rfl, ?_⟩) (by assumption) ?_
      rotate_left
      · (intro w hSw; (try dsimp only at hSw); go_split_ands; go_simp; try (with_reducible rfl))
      simp only [Act.put, List.setIfInBounds_toArray, List.set_cons_zero, List.set_cons_succ]
      refine wpAnyL_take 4 (v := ?_) rfl (by kernel_rfl) (by kernel_rfl) (by kernel_rfl) (by kernel_rfl) (fun _ _ _ h => h) (Or.inl ⟨by rfl, ?_⟩) (by assumption) ?_
      rotate_left
      · (intro w hSw; (try dsimp only at hSw); go_split_ands; go_simp; try (with_reducible rfl))
      simp only [Act.put, List.setIfInBounds_toArray, List.set_cons_zero, List.set_cons_succ]
      refine wpAnyL_take 5 (v := ?_) rfl (by kernel_rfl) (by kernel_rfl) (by kernel_rfl) (by kernel_rfl) (fun _ _ _ h => h) (Or.inl ⟨by rfl, ?_⟩) (by assumption) ?_
      rotate_left
      · (intro w hSw; (try dsimp only at hSw); go_split_ands; go_simp; try (with_reducible rfl))
      simp only [Act.put, List.setIfInBounds_toArray, List.set_cons_zero, List.set_cons_succ]
      refine wpAnyL_take 6 (v := ?_) rfl (by kernel_rfl) (by kernel_rfl) (by kernel_rfl) (by kernel_rfl) (fun _ _ _ h => h) (Or.inl ⟨by rfl, ?_⟩) (by assumption) ?_
      rotate_left
      · (intro w hSw; (try dsimp only at hSw); go_split_ands; go_simp; try (with_reducible rfl))
      simp only [Act.put, List.setIfInBounds_toArray, List.set_cons_zero, List.set_cons_succ]
      refine wpAnyL_take 7 (v := ?_) rfl (by kernel_rfl) (by kernel_rfl) (by kernel_rfl) (by kernel_rfl) (fun _ _ _ h => h) (Or.inl ⟨by rfl, ?_⟩) (by assumption) ?_
      rotate_left
      · (intro w hSw; (try dsimp only at hSw); go_split_ands; go_simp; try (with_reducible rfl))
      simp only [Act.put, List.setIfInBounds_toArray, List.set_cons_zero, List.set_cons_succ]
      refine wpAnyL_take 8 (v := ?_) rfl (by kernel_rfl) (by kernel_rfl) (by kernel_rfl) (by kernel_rfl) (fun _ _ _ h => h) (Or.inl ⟨by rfl, ?_⟩) (by assumption) ?_
      rotate_left
      · (intro w hSw; (try dsimp only at hSw); go_split_ands; go_simp; try (with_reducible rfl))
      simp only [Act.put, List.setIfInBounds_toArray, List.set_cons_zero, List.set_cons_succ]
      refine wpAnyL_take 9 (v := ?_) rfl (by kernel_rfl) (by kernel_rfl) (by kernel_rfl) (by kernel_rfl) (fun _ _ _ h => h) (Or.inl ⟨by rfl, ?_⟩) (by assumption) ?_
      rotate_left
      · (intro w hSw; (try dsimp only at hSw); go_split_ands; go_simp; try (with_reducible rfl))
      simp only [Act.put, List.setIfInBounds_toArray, List.set_cons_zero, List.set_cons_succ]
      refine wpAnyL_take 10 (v := ?_) rfl (by kernel_rfl) (by kernel_rfl) (by kernel_rfl) (by kernel_rfl) (fun _ _ _ h => h) (Or.inl ⟨by rfl, ?_⟩) (by assumption) ?_
      rotate_left
      · (intro w hSw; (try dsimp only at hSw); go_split_ands; go_simp; try (with_reducible rfl))
      simp only [Act.put, List.setIfInBounds_toArray, List.set_cons_zero, List.set_cons_succ]
      refine wpAnyL_take 11 (v := ?_) rfl (by kernel_rfl) (by kernel_rfl) (by kernel_rfl) (by kernel_rfl) (fun _ _ _ h => h) (Or.inl ⟨by rfl, ?_⟩) (by assumption) ?_
      rotate_left
      · (intro w hSw; (try dsimp only at hSw); go_split_ands; go_simp; try (with_reducible rfl))
      simp only [Act.put, List.setIfInBounds_toArray, List.set_cons_zero, List.set_cons_succ]
      refine wpAnyL_take 12 (v := ?_) rfl (by kernel_rfl) (by kernel_rfl) (by kernel_rfl) (by kernel_rfl) (fun _ _ _ h => h) (Or.inl ⟨by rfl, ?_⟩) (by assumption) ?_
      rotate_left
      · (intro w hSw; (try dsimp only at hSw); go_split_ands; go_simp; try (with_reducible rfl))
      simp only [Act.put, List.setIfInBounds_toArray, List.set_cons_zero, List.set_cons_succ]
      refine wpAnyL_take 13 (v := ?_) rfl (by kernel_rfl) (by kernel_rfl) (by kernel_rfl) (by kernel_rfl) (fun _ _ _ h => h) (Or.inl ⟨by rfl, ?_⟩) (by assumption) ?_
      rotate_left
      · (intro w hSw; (try dsimp only at hSw); go_split_ands; go_simp; try (with_reducible rfl))
      simp only [Act.put, List.setIfInBounds_toArray, List.set_cons_zero, List.set_cons_succ]
      refine wpAnyL_take 14 (v := ?_) rfl (by kernel_rfl) (by kernel_rfl) (by kernel_rfl) (by kernel_rfl) (fun _ _ _ h => h) (Or.inl ⟨by rfl, ?_⟩) (by assumption) ?_
      rotate_left
      · (intro w hSw; (try dsimp only at hSw); go_split_ands; go_simp; try (with_reducible rfl))
      simp only [Act.put, List.setIfInBounds_toArray, List.set_cons_zero, List.set_cons_succ]
      refine wpAnyL_take 15 (v := ?_) rfl (by kernel_rfl) (by kernel_rfl) (by kernel_rfl) (by kernel_rfl) (fun _ _ _ h => h) (Or.inl ⟨by rfl, ?_⟩) (by assumption) ?_
      rotate_left
      · (intro w hSw; (try dsimp only at hSw); go_split_ands; go_simp; try (with_reducible rfl))
      simp only [Act.put, List.setIfInBounds_toArray, List.set_cons_zero, List.set_cons_succ]
      refine wpAnyL_take 16 (v := ?_) rfl (by kernel_rfl) (by kernel_rfl) (by kernel_rfl) (by kernel_rfl) (fun _ _ _ h => h) (Or.inl ⟨by rfl, ?_⟩) (by assumption) ?_
      rotate_left
      · (intro w hSw; (try dsimp only at hSw); go_split_ands; go_simp; try (with_reducible rfl))
      simp only [Act.put, List.setIfInBounds_toArray, List.set_cons_zero, List.set_cons_succ]
      refine wpAnyL_ready (rs := [17]) (by kernel_rfl) (by simp) ?_
      refine AllReadyL.cons rfl (fun K hK => ?_) ?_
      · go_simp
        refine hK.out _ _ (.inr (by (refine sF ?_ b2 fz HNc.out; (repeat (first | exact HK90.out | exact Keep.refl _ _ | refine Keep.drew ?_ | refine Keep.drewN ?_ _ | refine Keep.alloc ?_ _ | refine Keep.setNew ?_ (by omega) _)); done))) (fun hS17 => ?_)
        replace hS17 := hS17.resolve_left (by decide)
        try simp only [Act.put, List.setIfInBounds_toArray, List.set_cons_zero, List.set_cons_succ]
        refine wpAnyL_ready (rs := [18]) (by kernel_rfl) (by simp) ?_
        refine AllReadyL.cons rfl (fun K hK => ?_) ?_
        · refine step_append_grows rfl (.tmp 87) (.tmp 89) 29 rfl 48 i0 (.agg #[.int .i64 0, .int .i64 0]) 2 16 Try.underlying29 HI.out HZ2.out.1 HZ2.out.2.1 HZ2.out.2.2 rfl (by decide) ao Q.length Q.length (bkE.cs Q) (by rfl) HAO.out (by rw [bkE.cs_length]; rfl) (fun b hb j y hj => (keep_cellA' (show Keep (fun _ => False) wr _ from (by (repeat (first | exact Keep.refl _ _ | exact Keep.refl _ _ | refine Keep.drew ?_ | refine Keep.drewN ?_ _ | refine Keep.alloc ?_ _ | refine Keep.setNew ?_ (by omega) _)); done)) (HCS.out b hb).1 id).trans ((HCS.out b hb).2.2 j y hj)) ⟨wr.heap.size, 0, none⟩ 1 _ [.int .i64 f, .int .i64 o] (by rfl) rfl (fun j z hj => row_new (W := wr.drew) j z hj) (by simp [Value.oneCell']) (by omega) (by unfold maxLen; omega) (by omega) ?_
          intro v90 w90 ho90 hg90
          obtain ⟨a90, l90, c90, rfl⟩ := own_slice ho90
          have HK90 : Hid (Keep (fun _ => False) wr w90) := Keep.grown (by (repeat (first | exact Keep.refl _ _ | exact Keep.refl _ _ | refine Keep.drew ?_ | refine Keep.drewN ?_ _ | refine Keep.alloc ?_ _ | refine Keep.setNew ?_ (by omega) _)); done) hg90 (fun x h1 h2 => by simp at h1)
          have HO90 := Lib.hid (ownsRow_base ho90 (C := wr.heap.size) (fun x hx => by have := (ho90.lt x hx).1; simp at this; omega))
          clear ho90 hg90
          refine hK.out _ _ (.inr (by (refine sF ?_ b2 fz HNc.out; (repeat (first | exact HK90.out | exact Keep.refl _ _ | refine Keep.drew ?_ | refine Keep.drewN ?_ _ | refine Keep.alloc ?_ _ | refine Keep.setNew ?_ (by omega) _)); done))) (fun hS18 => ?_)
          replace hS18 := hS18.resolve_left (by decide)
          try simp only [Act.put, List.setIfInBounds_toArray, List.set_cons_zero, List.set_cons_succ]
          refine wpAnyL_ready (rs := [19]) (by kernel_rfl) (by simp) ?_
          refine AllReadyL.cons rfl (fun K hK => ?_) ?_
          · go_simp
            refine hK.out _ _ (.inr (by (refine sF ?_ b2 fz HNc.out; (repeat (first | exact HK90.out | exact Keep.refl _ _ | refine Keep.drew ?_ | refine Keep.drewN ?_ _ | refine Keep.alloc ?_ _ | refine Keep.setNew ?_ (by omega) _)); done))) (fun hS19 => ?_)
            replace hS19 := hS19.resolve_left (by decide)
            try simp only [Act.put, List.setIfInBounds_toArray, List.set_cons_zero, List.set_cons_succ]
            refine wpAnyL_take 20 (v := ?_) rfl (by kernel_rfl) (by kernel_rfl) (by kernel_rfl) (by kernel_rfl) (fun _ _ _ h => h) (Or.inl ⟨by rfl, ?_⟩) (by assumption) ?_
            rotate_left
            · (intro w hSw; (try dsimp only at hSw); go_split_ands; go_simp; try (with_reducible rfl))
            simp only [Act.put, List.setIfInBounds_toArray, List.set_cons_zero, List.set_cons_succ]
            refine wpAnyL_ready (rs := [21]) (by kernel_rfl) (by simp) ?_
            refine AllReadyL.cons rfl (fun K hK => ?_) ?_
            · go_simp
              refine hK.out _ _ (.inl rfl) (fun _ => ?_)
              try simp only [Act.put, List.setIfInBounds_toArray, List.set_cons_zero, List.set_cons_succ]
              refine wpAnyL_done (by kernel_rfl) ?_ _
              refine NoPanic.normal ?_
              have hq9 := frames_close (Q' := Q ++ [⟨f, o⟩]) HR1.out (by have := HKW.out.size; omega) (by simp; omega) HK90.out HO90.out (by simp) (by rw [bkE.cs_append, bkE.cs_one]; first | done | rfl)
              have HQ9 := Lib.hid hq9
              clear hq9
              go_wp2
              go_ret
              refine ⟨fun h => by rw [HA2.out] at h; (cases h), fun _ => ⟨rfl, ?_⟩⟩
              obtain ⟨u', g1, g2, g3⟩ := HQ9.out
              exact ⟨u', g1, (HKW.out.mono (fun _ _ h => h.elim)).trans g2, fun x hx => by have := g3 x hx; have := HKW.out.size; omega⟩
            exact AllReadyL.nil
          exact AllReadyL.nil
        exact AllReadyL.nil
      exact AllReadyL.nil

end Go.Proofs.Ytibcfglfcoljgaa
