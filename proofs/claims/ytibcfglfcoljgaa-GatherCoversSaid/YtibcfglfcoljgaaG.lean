/- Gather: Pages at large. -/
import Derived.Test.YtibcfglfcoljgaaF
import Derived.WalkLawsBesides
set_option linter.unusedVariables false
set_option linter.unusedSimpArgs false
namespace Go.Proofs.Ytibcfglfcoljgaa
open Go.RowKit Go.Own

set_option maxHeartbeats 1000000 in
theorem pages_err (p : Nat) (s y n : Int) (h : ¬ fine ⟨s, y, n⟩) (w : World) :
    Calls Try.prog 17 #[.pointer (some ⟨p, 0, none⟩), .int .i64 s, .int .i64 y, .int .i64 n] w fun e w' => e = .returned (.int .i64 3) ∧ Keep (fun _ => False) w w' := by
  unfold fine at h
  simp only at h
  by_cases h1 : s < 0
  · clear h
    go_enter Try.func17, Try.ntmps17
    go_wp2
    go_ret
    exact ⟨rfl, (by (repeat (first | exact Keep.refl _ _ | exact Keep.refl _ _ | refine Keep.drew ?_ | refine Keep.drewN ?_ _ | refine Keep.alloc ?_ _ | refine Keep.setNew ?_ (by omega) _)); done)⟩
  by_cases h2 : y < 0
  · clear h
    go_enter Try.func17, Try.ntmps17
    go_wp2
    go_ret
    exact ⟨rfl, (by (repeat (first | exact Keep.refl _ _ | exact Keep.refl _ _ | refine Keep.drew ?_ | refine Keep.drewN ?_ _ | refine Keep.alloc ?_ _ | refine Keep.setNew ?_ (by omega) _)); done)⟩
  by_cases h3 : 4096 ≤ y
  · clear h
    go_enter Try.func17, Try.ntmps17
    go_wp2
    go_ret
    exact ⟨rfl, (by (repeat (first | exact Keep.refl _ _ | exact Keep.refl _ _ | refine Keep.drew ?_ | refine Keep.drewN ?_ _ | refine Keep.alloc ?_ _ | refine Keep.setNew ?_ (by omega) _)); done)⟩
  by_cases h4 : n < 1
  · clear h
    go_enter Try.func17, Try.ntmps17
    go_wp2
    go_ret
    exact ⟨rfl, (by (repeat (first | exact Keep.refl _ _ | exact Keep.refl _ _ | refine Keep.drew ?_ | refine Keep.drewN ?_ _ | refine Keep.alloc ?_ _ | refine Keep.setNew ?_ (by omega) _)); done)⟩
  have h5 : 4096 - y < n := by omega
  clear h
  go_enter Try.func17, Try.ntmps17
  go_wp2
  go_ret
  exact ⟨rfl, (by (repeat (first | exact Keep.refl _ _ | exact Keep.refl _ _ | refine Keep.drew ?_ | refine Keep.drewN ?_ _ | refine Keep.alloc ?_ _ | refine Keep.setNew ?_ (by omega) _)); done)⟩

def PagesC (w : World) (B p : Nat) (m : Int) (u : Value) (L : List Fl) (Q : List Bk) (r : Int) (o : Fl) (e : Ending) (w' : World) : Prop :=
  e = .returned (.int .i64 0) ∧ ∃ v', RepH w' B p m v' u (pgAll L o) Q r ∧ Keep (fun z => z = p) w w' ∧ ∀ x, v'.ownBlock = some x → w.heap.size ≤ x

theorem pages_close {w w2 : World} {B p n : Nat} {m : Int} {v u : Value} {L L' : List Fl} {Q : List Bk} {r : Int} {a2 : Option Addr} {l2 c2 : Nat} {xs : List Value} (hR : RepH w B p m v u L Q r) (hB : B ≤ w.heap.size) (hl : L'.length ≤ 200)
    (HK2 : Keep (fun _ => False) w w2) (HO2 : w2.ownsRow w.heap.size 40 flE.k (.slice a2 l2 c2) n xs) (hn : n = L'.length) (hxs : xs = flE.cs L') :
    ∃ v', RepH (w2.setCell ⟨p, 1, none⟩ (.slice a2 l2 c2)) B p m v' u L' Q r ∧ Keep (fun x => x = p) w (w2.setCell ⟨p, 1, none⟩ (.slice a2 l2 c2)) ∧ ∀ x, v'.ownBlock = some x → w.heap.size ≤ x := by
  subst hn; subst hxs
  have hpl := block_lt hR.hp
  have hO : OwnL flE w2 B 40 (.slice a2 l2 c2) L' := ownsRow_base HO2 (C := B) (fun x hx => by have := (HO2.lt x hx).1; omega)
  have hlt2 := HO2.lt
  have KP := (Keep.refl (fun x => x = p) w2).setCell (p := ⟨p, 1, none⟩) (fun _ => rfl) (.slice a2 l2 c2)
  refine ⟨.slice a2 l2 c2, ⟨?_, ?_, ?_, ?_, hR.nu, hl, hR.hq, hR.hr⟩, (HK2.mono (T := fun x => x = p) (fun _ _ h => h.elim)).setCell (fun _ => rfl) _, fun x hx => (hlt2 x hx).1⟩
  · rw [heap_setCell_eq ((HK2.block p hpl id).trans hR.hp)]; simp
  · exact hO.keep KP (fun x hx => by have := (hlt2 x hx).1; omega)
  · exact (hR.hu.keep HK2 (fun _ _ => id)).keep KP (fun x hx e => hR.nu (e ▸ hx))
  · intro e; have := (hlt2 p e).1; omega

set_option maxRecDepth 100000 in
set_option maxHeartbeats 4000000 in
theorem pages_any (B p : Nat) (m : Int) (v u : Value) (L : List Fl) (Q : List Bk) (r : Int) (s y n : Int) (hf : fine ⟨s, y, n⟩) (hL : ∀ x, x ∈ L → fine x) (hll : L.length ≤ 100) (w : World) (hB : B ≤ w.heap.size) (hR : RepH w B p m v u L Q r) :
    Calls Try.prog 17 #[.pointer (some ⟨p, 0, none⟩), .int .i64 s, .int .i64 y, .int .i64 n] w (PagesC w B p m u L Q r ⟨s, y, n⟩) := by
  have HF := Lib.hid hf
  have HLF := Lib.hid hL
  have HRR := Lib.hid hR
  obtain ⟨f1, f2, f3, f4⟩ := hf
  simp only at f1 f2 f3 f4
  have f5 : n ≤ 4096 - y := by omega
  have f6 : y < 4096 := by omega
  obtain ⟨a, cap, rfl, hag⟩ := hR.hv.slice
  have HAG := Lib.hid hag
  clear hag hL hR
  have K1 : Hid (Keep (fun _ => False) w ((w.alloc (.cells #[.int .i64 s] 3)).alloc (.cells #[.int .i64 s, .int .i64 y, .int .i64 n] 40))) := ((Keep.refl _ _).alloc _).alloc _
  have HN9 : Hid (((w.alloc (.cells #[.int .i64 s] 3)).alloc (.cells #[.int .i64 s, .int .i64 y, .int .i64 n] 40)).heap[w.heap.size + 1]? = some (.cells #[.int .i64 s, .int .i64 y, .int .i64 n] 40 (0, 0))) := by
    have h := heap_alloc_new (w.alloc (.cells #[.int .i64 s] 3)) (.cells #[.int .i64 s, .int .i64 y, .int .i64 n] 40)
    rw [World.size_alloc] at h; exact h
  have HN5 : Hid (((w.alloc (.cells #[.int .i64 s] 3)).alloc (.cells #[.int .i64 s, .int .i64 y, .int .i64 n] 40)).heap[w.heap.size]? = some (.cells #[.int .i64 s] 3 (0, 0))) := by
    unfold Hid
    rw [heap_alloc_at, World.size_alloc, if_neg (by omega)]; exact heap_alloc_new w _
  have hcs := (HRR.out.keep0 K1.out).cs.2.1
  go_enter Try.func17, Try.ntmps17
  go_wp2
  generalize hwa : (w.alloc (.cells #[.int .i64 s] 3)).alloc (.cells #[.int .i64 s, .int .i64 y, .int .i64 n] 40) = wa at K1 HN9 HN5 hcs ⊢
  clear hwa
  obtain ⟨n5, hn5⟩ : ∃ z, w.heap.size = z := ⟨_, rfl⟩
  rw [hn5] at HN9 HN5 ⊢
  have H5 := Lib.hid hn5
  clear hn5
  have hpn : p < n5 := by rw [← H5.out]; exact block_lt HRR.out.hp
  have HU : Hid ((∀ z, (Value.slice a L.length cap).ownBlock = some z → z < n5) ∧ ∀ z, u.ownBlock = some z → z < n5) := ⟨fun z hz => by rw [← H5.out]; exact (HRR.out.hv.lt z hz).2, fun z hz => by rw [← H5.out]; exact (HRR.out.hu.lt z hz).2⟩
  have hwa5 : n5 + 1 < wa.heap.size := block_lt HN9.out
  go_loopw [10, 49] (fun o i wr => ∃ k : Nat, k ≤ L.length ∧ i = .int .i64 k ∧ ∃ o' : Value, o' = o ∧ OwnL flE wr (n5 + 2) 40 o' (pgTo L ⟨s, y, n⟩ k).1 ∧ wr.heap[n5 + 1]? = some (.cells #[.int .i64 (pgTo L ⟨s, y, n⟩ k).2.s, .int .i64 (pgTo L ⟨s, y, n⟩ k).2.p, .int .i64 (pgTo L ⟨s, y, n⟩ k).2.n] 40 (0, 0)) ∧ Keep (fun z => n5 + 1 ≤ z) wa wr) (fun _ i _ => L.length - (intOf i).toNat)
  case atStart => exact ⟨0, by omega, rfl, _, rfl, OwnL.nil _ _ _, HN9.out, Keep.refl _ _⟩
  case round =>
    obtain ⟨k, hk, rfl, o, ho, hO, h9, hkeep⟩ := hrel
    subst ho
    obtain ⟨g1, g2, g3, g4⟩ := pgTo_fine L ⟨s, y, n⟩ HLF.out HF.out k hk
    have HG1 := Lib.hid g1
    have HG3 := Lib.hid g3
    have hsz := hkeep.size
    have HO := Lib.hid hO
    have HK := Lib.hid hkeep
    have H9 := Lib.hid h9
    obtain ⟨c, hc⟩ : ∃ c, (pgTo L ⟨s, y, n⟩ k).2 = c := ⟨_, rfl⟩
    have HC := Lib.hid hc
    rw [hc] at H9 HG1 g1 g2
    clear hO hkeep h9 hc g3
    simp only at g2
    obtain ⟨e9, e10, e11⟩ := cells3 H9.out
    by_cases hlt : k < L.length
    · obtain ⟨g, rfl⟩ := HAG.out (by intro e; rw [e] at hlt; simp at hlt)
      have HLw := Lib.hid ((HRR.out.hv.keep K1.out (fun _ _ => id)).keep HK.out (fun z hz e => by have := HU.out.1 z hz; omega))
      obtain ⟨d0, d1, d2⟩ := fl_cells HLw.out hlt
      have hxf := HLF.out _ (List.getElem_mem hlt)
      have HS := Lib.hid (pgTo_succ L ⟨s, y, n⟩ hlt)
      obtain ⟨x, hx⟩ : ∃ x, L[k] = x := ⟨_, rfl⟩
      rw [hx] at d0 d1 d2 hxf HS
      clear hx
      have HXF := Lib.hid hxf
      have h5 := Lib.hid ((HK.out.block n5 (by omega) (by omega)).trans HN5.out)
      have hstep : Hid (pgTo L ⟨s, y, n⟩ (k + 1) = if tch c x then ((pgTo L ⟨s, y, n⟩ k).1, mrg c x) else ((pgTo L ⟨s, y, n⟩ k).1 ++ [x], c)) := by unfold Hid; rw [HS.out]; unfold pgStep; rw [HC.out]
      obtain ⟨R, hRr⟩ : ∃ R, (pgTo L ⟨s, y, n⟩ k).1 = R := ⟨_, rfl⟩
      rw [hRr] at HO hstep g4
      clear hRr HS
      have KX : Hid (Keep (fun _ => False) wr (wr.alloc (.cells #[.int .i64 x.s, .int .i64 x.p, .int .i64 x.n] 40))) := (Keep.refl _ _).alloc _
      have hwn : n5 + 1 < wr.heap.size := by omega
      cases ht : tch c x with
      | true =>
        have HT := Lib.hid ht
        rw [ht] at hstep
        clear ht
        have HRS : Hid ((pgTo L ⟨s, y, n⟩ (k + 1)).1 = R ∧ (pgTo L ⟨s, y, n⟩ (k + 1)).2 = mrg c x) := by unfold Hid; rw [hstep.out]; exact ⟨rfl, rfl⟩
        clear hstep
        obtain ⟨ht1, ht2, ht3⟩ := (tch_iff c x).mp HT.out
        clear ht1
        obtain ⟨q1, q2, q3, q4⟩ := hxf
        obtain ⟨r1, r2, r3, r4⟩ := g1
        have q5 : x.p + x.n ≤ 4096 := q4
        have r5 : c.p + c.n ≤ 4096 := r4
        go_wp2_with (go_at_call 25; refine (touch_any c x HG1.out HXF.out n5 (n5 + 1) _ (by rw [g2]; exact (KX.out.block n5 (by omega) id).trans h5.out) ((KX.out.block (n5 + 1) (by omega) id).trans H9.out)).mono ?_; rw [HT.out]; rintro e w5 ⟨rfl, hk5⟩; have HX5 := Lib.hid ((hk5.block wr.heap.size (by simp) id).trans (heap_alloc_new wr _)); have HK5 := Lib.hid (KX.out.trans hk5); obtain ⟨b0, b1, b2⟩ := cells3 HX5.out; have H95 := Lib.hid ((HK5.out.block (n5 + 1) hwn id).trans H9.out); obtain ⟨i0, i1, i2⟩ := cells3 H95.out; have fz1 : w5.frozen? ⟨n5 + 1, 1, none⟩ = false := frozen_block H95.out; have fz2 : w5.frozen? ⟨n5 + 1, 2, none⟩ = false := frozen_block H95.out; have hne : wr.heap.size ≠ n5 + 1 := (by omega); clear hk5)
        go_roundw
        case rel =>
          refine ⟨k + 1, by omega, by go_num, _, rfl, ?_, ?_, HK.out.trans (((HK5.out.mono (T := fun z => n5 + 1 ≤ z) (fun _ _ h => h.elim)).setCell (p := ⟨n5 + 1, 1, none⟩) (fun _ => Nat.le_refl _) _).setCell (p := ⟨n5 + 1, 2, none⟩) (fun _ => Nat.le_refl _) _)⟩
          · rw [HRS.out.1]
            have KP := ((Keep.refl (fun z => z = n5 + 1) w5).setCell (p := ⟨n5 + 1, 1, none⟩) (fun _ => rfl) (.int .i64 (if c.p < x.p then c.p else x.p))).setCell (p := ⟨n5 + 1, 2, none⟩) (fun _ => rfl) (.int .i64 ((if x.p + x.n < c.p + c.n then c.p + c.n else x.p + x.n) - if c.p < x.p then c.p else x.p))
            exact (HO.out.keep HK5.out (fun _ _ => id)).keep KP (fun z hz e => by have := (HO.out.lt z hz).1; omega)
          · rw [HRS.out.2, heap_setCell_eq (heap_setCell_eq H95.out)]
            have e1 : (mrg c x).p = if c.p < x.p then c.p else x.p := by unfold mrg; simp only; split <;> omega
            have e2 : (mrg c x).n = (if x.p + x.n < c.p + c.n then c.p + c.n else x.p + x.n) - if c.p < x.p then c.p else x.p := by unfold mrg; simp only; split <;> split <;> omega
            rw [e1, e2]
            simp [mrg]
        case measure => simp [intOf]; omega
      | false =>
        have HT := Lib.hid ht
        rw [ht] at hstep
        clear ht
        have HRS : Hid ((pgTo L ⟨s, y, n⟩ (k + 1)).1 = R ++ [x] ∧ (pgTo L ⟨s, y, n⟩ (k + 1)).2 = c) := by unfold Hid; rw [hstep.out]; exact ⟨rfl, rfl⟩
        clear hstep
        obtain ⟨ao, co, rfl, -⟩ := HO.out.slice
        go_wp2_with (first | (go_at_call 25; refine (touch_any c x HG1.out HXF.out n5 (n5 + 1) _ (by rw [g2]; exact (KX.out.block n5 (by omega) id).trans h5.out) ((KX.out.block (n5 + 1) (by omega) id).trans H9.out)).mono ?_; rw [HT.out]; rintro e w5 ⟨rfl, hk5⟩; have HX5 := Lib.hid ((hk5.block wr.heap.size (by simp) id).trans (heap_alloc_new wr _)); have HK5 := Lib.hid (KX.out.trans hk5); obtain ⟨b0, b1, b2⟩ := cells3 HX5.out; have HOk := Lib.hid (HO.out.keep HK5.out (fun _ _ => id)); clear hk5) | (at_builtin; (refine wpl_app et28 rfl (.tmp 57) (.tmp 59) rfl (n5 + 2) _ R.length (flE.cs R) rfl (HOk.out.alloc _) (.slice (some ⟨w5.heap.size, 0, none⟩) 1 1) 1 (flE.c x) rfl (Reads.new (heap_alloc_new w5 _) rfl 1) (flE.one x) (by unfold maxLen; omega) (by omega) (by have := HK5.out.size; simp; omega) ?_; intro v6 w6 hown6 hgrow6; have HK6 : Hid (Keep (fun z => n5 + 2 ≤ z) wr w6) := Keep.grown ((HK5.out.mono (fun _ _ h => h.elim)).alloc _) hgrow6 (fun z h1 h2 => (HO.out.lt z h1).1); have HO6 : Hid (OwnL flE w6 (n5 + 2) 40 v6 (R ++ [x])) := (by unfold Hid OwnL; rw [List.length_append, flE.cs_append, flE.cs_one]; exact hown6); clear hown6 hgrow6)))
        go_roundw
        case rel => exact ⟨k + 1, by omega, by go_num, _, rfl, by rw [HRS.out.1]; exact HO6.out, by rw [HRS.out.2]; exact (HK6.out.block (n5 + 1) hwn (by omega)).trans H9.out, HK.out.trans (HK6.out.mono (fun z _ h => by omega))⟩
        case measure => simp [intOf]; omega
    · obtain rfl : k = L.length := by omega
      have hwn : n5 + 1 < wr.heap.size := by omega
      have hpl : p < wr.heap.size := by omega
      have HKw : Hid (Keep (fun _ => False) w wr) := ((K1.out.mono (T := fun z => w.heap.size ≤ z) (fun _ _ h => h.elim)).trans (HK.out.mono (fun z _ h => by rw [H5.out]; omega))).fresh (fun _ h => h) (Nat.le_refl _)
      have HRw := Lib.hid (HRR.out.keep0 HKw.out)
      obtain ⟨b0, b1, b2, b3⟩ := HRw.out.cs
      have fz : wr.frozen? ⟨p, 1, none⟩ = false := frozen_block HRw.out.hp
      obtain ⟨R, hRr⟩ : ∃ R, (pgTo L ⟨s, y, n⟩ L.length).1 = R := ⟨_, rfl⟩
      have HRS : Hid (pgAll L ⟨s, y, n⟩ = R ++ [c]) := by unfold Hid pgAll; rw [hRr, HC.out]
      rw [hRr] at HO g4
      clear hRr b0 b2 b3
      have HG2 : Hid (flE.c c = [.int .i64 s, .int .i64 c.p, .int .i64 c.n]) := by unfold Hid flE; simp only [g2]
      obtain ⟨ao, co, rfl, -⟩ := HO.out.slice
      go_wp2_with (at_builtin; (refine wpl_app et28 rfl (.tmp 85) (.tmp 87) rfl (n5 + 2) _ R.length (flE.cs R) rfl (HO.out.alloc _) (.slice (some ⟨wr.heap.size, 0, none⟩) 1 1) 1 [.int .i64 s, .int .i64 c.p, .int .i64 c.n] rfl (Reads.new (heap_alloc_new wr _) rfl 1) (by simp [Value.oneCell']) (by unfold maxLen; omega) (by omega) (by simp; omega) ?_; intro v5 w5 hown5 hgrow5; obtain ⟨a5, l5, c5, rfl⟩ := own_slice hown5; have HK5 : Hid (Keep (fun z => n5 + 2 ≤ z) wr w5) := Keep.grown (by (repeat (first | exact Keep.refl _ _ | exact Keep.refl _ _ | refine Keep.drew ?_ | refine Keep.drewN ?_ _ | refine Keep.alloc ?_ _ | refine Keep.setNew ?_ (by omega) _)); done) hgrow5 (fun z h1 h2 => (HO.out.lt z h1).1); have HK6 : Hid (Keep (fun _ => False) w w5) := ((HKw.out.mono (T := fun z => w.heap.size ≤ z) (fun _ _ h => h.elim)).trans (HK5.out.mono (fun z _ h => by rw [H5.out]; omega))).fresh (fun _ h => h) (Nat.le_refl _); obtain ⟨hz1, hz2⟩ := keepS2 HK5.out hpl (by omega) b1 fz; have HO5 := Lib.hid hown5; clear hown5 hgrow5))
      go_ret
      exact ⟨rfl, pages_close HRR.out hB (by rw [HRS.out]; simp; omega) HK6.out (ownsRow_base HO5.out (fun z hz => by have := (HO5.out.lt z hz).1; rw [H5.out]; omega)) (by rw [HRS.out]; simp) (by rw [HRS.out, flE.cs_append, flE.cs_one, HG2.out])⟩

end Go.Proofs.Ytibcfglfcoljgaa
