/- ResvAnew: the walk. -/
import Derived.Test.YtmbgebmhdofdaaaAG
set_option linter.unusedVariables false
set_option linter.unusedSimpArgs false
namespace Go.Proofs.Ytmbgebmhdofdaaa
open Go.RowKit Go.Own

/-- What is broken is not found; its page and its frame are free. -/
theorem Inv.gone {L : List Rv} {X : List Ox} {T : Int} (h : Inv L X T) {k i : Nat} (hk : k < L.length) (hi : i < X.length) (e : X[i].rv = L[k]) :
    whI (rmv L k) X[i].s X[i].p = -1 ∧ owF (rmv L k) X[i].f = none ∧ whI (rmv L k ++ [⟨X[i].s, X[i].p, X[i].f, 0⟩]) X[i].s X[i].p = ((rmv L k).length : Nat) := by
  have hd := h.drop hk hi e
  have hap : ∀ x, x ∈ rmv X i → Apt X[i] x := by
    have h5 := ((rmv_perm hi).pairwise_iff (fun {a b} (e : Apt a b) => e.symm)).mp h.ap
    rw [List.pairwise_cons] at h5
    exact h5.1
  have hno : ∀ r, r ∈ rmv L k → (r.s ≠ X[i].s ∨ r.p ≠ X[i].p) ∧ r.f ≠ X[i].f := by
    intro r hr
    obtain ⟨x, hx, rfl⟩ := List.mem_map.mp (hd.perm.mem_iff.mp hr)
    have := hap x hx
    exact ⟨this.1.imp Ne.symm Ne.symm, Ne.symm this.2⟩
  refine ⟨?_, ?_, ?_⟩
  · rcases whI_cases (rmv L k) X[i].s X[i].p with ⟨h1, _⟩ | ⟨m, _, hm, h2, h3⟩
    · exact h1
    · have := (hno _ (List.getElem_mem hm)).1; omega
  · unfold owF
    rw [List.find?_eq_none]
    intro r hr
    have := (hno r hr).2
    simpa using this
  · rcases whI_cases (rmv L k ++ [⟨X[i].s, X[i].p, X[i].f, 0⟩]) X[i].s X[i].p with ⟨_, h1⟩ | ⟨m, h1, hm, h2, h3⟩
    · exact absurd ⟨rfl, rfl⟩ (h1 ⟨X[i].s, X[i].p, X[i].f, 0⟩ (by simp))
    · rw [h1]
      by_cases hlt : m < (rmv L k).length
      · rw [List.getElem_append_left hlt] at h2 h3
        have := (hno _ (List.getElem_mem hlt)).1; omega
      · simp at hm; omega

set_option maxRecDepth 100000 in
set_option maxHeartbeats 4000000 in
theorem anew_walk (la : Option Addr) (l c : Nat) (s y : Int) (hy : i64R y) (w : World) (hr : RowsAt w la l [.int .i64, .int .i64, .int .i64, .int .i64]) :
    Calls Try.prog 6 #[.slice la l c, .int .i64 s, .int .i64 y] w fun e w' => e = .returned (.bool true) ∧ Below w.heap.size w w' := by
  obtain ⟨A, rfl, hA⟩ := acts4_of_rows hr
  have H1 := Lib.hid hA
  have HY := Lib.hid hy
  clear hA hr hy
  go_enter Try.func6, Try.ntmps6
  go_wp2_with (first | (go_at_call 8; refine (made_any la A c _ H1.out).mono ?_; rintro e w1 ⟨p, q, rfl, hT, hk1⟩; have HT := Lib.hid hT; have HK1 := Lib.hid hk1; clear hT hk1) | (go_at_call 9; refine (awake_any _).mono ?_; rintro e w2 ⟨rfl, hk2⟩; have HT2 := Lib.hid (HT.out.keep0 hk2); have HK2 := Lib.hid (HK1.out.trans hk2); clear hk2))
  obtain ⟨v, vx, L, X, T, hV⟩ := HT2.out
  have HV := Lib.hid hV
  have hll := hV.ll
  clear hV HT HT2
  refine (at_any w.heap.size q vx X T s y _ HV.out.rx).mono ?_
  rcases HV.out.iv.find s y with ⟨h1, h2⟩ | ⟨k, i, j, h1, h2, hk, hi, he, hs, hp, hyj, hj, hym, hok, hb⟩
  · rw [h2]
    rintro e w4 ⟨rfl, rfl⟩
    have HB := Lib.hid (breakL_none w.heap.size p v L s y HY.out h1 _ HV.out.rc)
    clear h1 h2
    go_wp2_with (go_at_call 16; refine HB.out.mono ?_; rintro e w5 ⟨rfl, hk5⟩; have HK5 := Lib.hid (HK2.out.trans hk5); clear hk5)
    go_ret
    exact ⟨rfl, HK5.out.below⟩
  · rw [h2]
    rintro e w4 ⟨rfl, rfl⟩
    obtain ⟨g1, g2, g3⟩ := HV.out.iv.gone hk hi he
    have es : L[k].s = X[i].s := by rw [← he]; rfl
    have ep : L[k].p = X[i].p := by rw [← he]; rfl
    have ef : L[k].f = X[i].f := by rw [← he]; rfl
    have eb : L[k].b = X[i].b := by rw [← he]; rfl
    obtain ⟨r1, r2, r3, r4, r5, r6, r7⟩ := id hok
    have HBR : Hid (∀ W, Keep (fun _ => False) w2 W → Calls Try.prog 16 #[.pointer (some ⟨p, 0, none⟩), .int .i64 s, .int .i64 y] W fun e w' => ∃ v' u, e = .returned (.tuple #[u, .int .i64 0]) ∧ RepR w' w.heap.size p v' (rmv L k) ∧ OwnL inE w' W.heap.size 3 u (opN L[k].f L[k].b 8) ∧ Keep (fun z => z = p) W w' ∧ (∀ z, v'.ownBlock = some z → W.heap.size ≤ z)) := fun W kk => breakL_yes w.heap.size p k v L L[k] s y HY.out h1 hk rfl (by omega) (by omega) W (by have := kk.size; have := HK2.out.size; omega) (HV.out.rc.keep0 kk)
    have HG1 : Hid (whI (rmv L k) s (y / 8 * 8) = -1) := by unfold Hid; rw [← hp, ← hs]; exact g1
    have HG1' : Hid (whI (rmv L k) X[i].s X[i].p = -1) := g1
    have HG2 : Hid (owF (rmv L k) X[i].f = none) := g2
    have HG3 : Hid (whI (rmv L k ++ [⟨X[i].s, X[i].p, X[i].f, 0⟩]) s (y / 8 * 8) = ((rmv L k).length : Nat)) := by unfold Hid; rw [← hp, ← hs]; exact g3
    have HMK : Hid (mkOk X[i].s X[i].p X[i].f) := ⟨r1, r2, by omega, r5, r6⟩
    have HM8 : Hid (X[i].p % 8 = 0 ∧ X[i].f % 8 = 0) := ⟨r4, r7⟩
    have hl2 : (rmv L k).length ≤ 150 := by rw [rmv_length hk]; omega
    have i0 : (0 : Int) ≤ i := by omega
    obtain ⟨gx, capx, rfl, -⟩ := HV.out.rx.hv.form (by intro e; rw [e] at hi; simp at hi)
    have hXl : X.length ≤ 200 := HV.out.rx.hl
    have c5 := HV.out.rx.c0
    obtain ⟨c0, c1, c2, c3, c4⟩ := ox_cells2 HV.out.rx.hv hi
    obtain ⟨⟨xs, xp, xf, xg, xc, xt, xb⟩, hx⟩ : ∃ z, X[i] = z := ⟨_, rfl⟩
    rw [hx] at c0 c1 c2 c3 c4 HG1' HG2 HG3 HMK HM8
    simp only at c0 c1 c2 c3 c4 HG1' HG2 HG3 HMK HM8
    clear h1 h2 he hs hp hyj hym hok hb g1 g2 g3 es ep ef eb r1 r2 r3 r4 r5 r6 r7 hx
    go_wp2_with fail
    have HB0 := Lib.hid (heap_alloc_new w2 (.cells #[.int .i64 xs, .int .i64 xp, .int .i64 xf, .slice (some ⟨xg, 0, none⟩) 8 xc, .int .i64 xt] 53))
    have hpw := HV.out.bp
    have hpl := block_lt HV.out.rc.hp
    refine (HBR.out _ (by (repeat (first | exact Keep.refl _ _ | exact Keep.refl _ _ | refine Keep.drew ?_ | refine Keep.drewN ?_ _ | refine Keep.alloc ?_ _ | refine Keep.setNew ?_ (by omega) _)); done)).mono ?_
    rintro e w5 ⟨v5, u5, rfl, hR5, hO5, hk5, -⟩
    have HR5 := Lib.hid hR5
    have HB5 := Lib.hid ((hk5.block _ (block_lt HB0.out) (by omega)).trans HB0.out)
    have HK5 : Hid (Keep (fun z => w.heap.size ≤ z) w w5) := Keep.trans (b := w2.alloc (.cells #[.int .i64 xs, .int .i64 xp, .int .i64 xf, .slice (some ⟨xg, 0, none⟩) 8 xc, .int .i64 xt] 53)) (by (repeat (first | exact HK2.out.mono (fun _ _ h => h.elim) | exact Keep.refl _ _ | refine Keep.drew ?_ | refine Keep.drewN ?_ _ | refine Keep.alloc ?_ _ | refine Keep.setNew ?_ (by omega) _)); done) (hk5.mono fun z _ h => by omega)
    obtain ⟨a5, c5', rfl, -⟩ := hO5.slice
    obtain ⟨b13, hb13⟩ : ∃ z, w2.heap.size = z := ⟨_, rfl⟩
    rw [hb13] at HB5 ⊢
    clear hR5 hO5 hk5 c0 c1 c2 c3 c4 c5 hb13
    go_wp2_with fail
    refine (findL_none w.heap.size p _ _ s y HY.out HG1.out _ HR5.out).mono ?_
    unfold rvV rv0
    rintro e w6 ⟨rfl, hk6⟩
    have HR6 := Lib.hid (HR5.out.keep0 hk6)
    have HB6 := Lib.hid ((hk6.block _ (block_lt HB5.out) id).trans HB5.out)
    have HK6 : Hid (Keep (fun z => w.heap.size ≤ z) w w6) := HK5.out.trans (hk6.mono fun _ _ h => h.elim)
    clear hk6
    obtain ⟨b0, b1, b2, b3, b4⟩ := cells5 HB6.out
    have hbl := block_lt HB6.out
    go_wp2_with fail
    refine (make_ok w.heap.size p _ _ xs xp xf HMK.out HM8.out HG2.out HG1'.out hl2 _ (by have := HK6.out.size; simp; omega) (HR6.out.keep0 (by (repeat (first | exact Keep.refl _ _ | exact Keep.refl _ _ | refine Keep.drew ?_ | refine Keep.drewN ?_ _ | refine Keep.alloc ?_ _ | refine Keep.setNew ?_ (by omega) _)); done))).mono ?_
    rintro e w7 ⟨v7, rfl, hR7, hk7, -⟩
    have HR7 := Lib.hid hR7
    have hne : b13 ≠ p := typ_ne HB6.out HR6.out.hp (by decide)
    have HB7 : Hid (w7.heap[b13]? = some (.cells #[.int .i64 xs, .int .i64 xp, .int .i64 xf, .slice (some ⟨xg, 0, none⟩) 8 xc, .int .i64 xt] 53 (0, 0))) := (hk7.block b13 (Nat.lt_of_lt_of_le hbl (Keep.alloc (Keep.refl (fun _ => False) w6) _).size) hne).trans (by rw [heap_alloc_at, if_neg (by omega)]; exact HB6.out)
    have HK7 : Hid (Keep (fun z => w.heap.size ≤ z) w w7) := Keep.trans (b := w6.alloc (.cells #[.int .i64 0, .int .i64 0, .int .i64 0, .int .u8 0] 31)) (by (repeat (first | exact HK6.out | exact Keep.refl _ _ | refine Keep.drew ?_ | refine Keep.drewN ?_ _ | refine Keep.alloc ?_ _ | refine Keep.setNew ?_ (by omega) _)); done) (hk7.mono fun z _ h => by omega)
    clear hR7 hk7 b0 b1 b2 b3 b4 hbl
    go_wp2_with fail
    refine (findL_yes w.heap.size p _ _ _ ⟨xs, xp, xf, 0⟩ s y HY.out HG3.out (by simp) (by simp) _ HR7.out).mono ?_
    unfold rvV
    rintro e w8 ⟨rfl, hk8⟩
    have HB8 := Lib.hid ((hk8.block b13 (block_lt HB7.out) id).trans HB7.out)
    have HK8 : Hid (Keep (fun z => w.heap.size ≤ z) w w8) := HK7.out.trans (hk8.mono fun _ _ h => h.elim)
    clear hk8
    obtain ⟨b0, b1, b2, b3, b4⟩ := cells5 HB8.out
    have hbl := block_lt HB8.out
    go_wp2
    go_ret
    exact ⟨rfl, (Keep.fresh (B := w.heap.size) (by (repeat (first | exact HK8.out | exact Keep.refl _ _ | refine Keep.drew ?_ | refine Keep.drewN ?_ _ | refine Keep.alloc ?_ _ | refine Keep.setNew ?_ (by omega) _)); done) (fun _ h => h) (Nat.le_refl _)).below⟩

end Go.Proofs.Ytmbgebmhdofdaaa
