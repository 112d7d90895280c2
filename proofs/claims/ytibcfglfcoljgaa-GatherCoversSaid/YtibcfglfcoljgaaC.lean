/- Gather: Pages that touch. -/
import Derived.Test.YtibcfglfcoljgaaB
set_option linter.unusedVariables false
set_option linter.unusedSimpArgs false
namespace Go.Proofs.Ytibcfglfcoljgaa
open Go.RowKit Go.Own

set_option maxHeartbeats 1000000 in
theorem touch_yes (n5 n9 : Nat) (w : World) (h5 : w.cell? ⟨n5, 0, none⟩ = some (.int .i64 0)) (h1 : w.cell? ⟨n9, 1, none⟩ = some (.int .i64 10)) (h2 : w.cell? ⟨n9, 2, none⟩ = some (.int .i64 1)) :
    Calls Try.prog 25 #[.agg #[.int .i64 0, .int .i64 8, .int .i64 2], .pointer (some ⟨n5, 0, none⟩), .pointer (some ⟨n9, 0, none⟩)] w fun e w' => e = .returned (.bool true) ∧ Keep (fun _ => False) w w' := by
  have k5 : (w.alloc (.cells #[.int .i64 0, .int .i64 8, .int .i64 2] 40)).cell? ⟨n5, 0, none⟩ = some (.int .i64 0) := (cell_alloc_lt (block_lt_cell h5)).trans h5
  have k1 : (w.alloc (.cells #[.int .i64 0, .int .i64 8, .int .i64 2] 40)).cell? ⟨n9, 1, none⟩ = some (.int .i64 10) := (cell_alloc_lt (block_lt_cell h1)).trans h1
  have k2 : (w.alloc (.cells #[.int .i64 0, .int .i64 8, .int .i64 2] 40)).cell? ⟨n9, 2, none⟩ = some (.int .i64 1) := (cell_alloc_lt (block_lt_cell h2)).trans h2
  go_enter Try.func25, Try.ntmps25
  go_wp2
  go_ret
  exact ⟨rfl, (by (repeat (first | exact Keep.refl _ _ | exact Keep.refl _ _ | refine Keep.drew ?_ | refine Keep.drewN ?_ _ | refine Keep.alloc ?_ _ | refine Keep.setNew ?_ (by omega) _)); done)⟩

set_option maxHeartbeats 2000000 in
theorem pages_second (B p : Nat) (v u : Value) (w : World) (hB : B ≤ w.heap.size) (hR : RepG w B p v u [⟨0, 8, 2⟩] [] 0) :
    Calls Try.prog 17 #[.pointer (some ⟨p, 0, none⟩), .int .i64 0, .int .i64 10, .int .i64 1] w fun e w' => ∃ v', e = .returned (.int .i64 0) ∧ RepG w' B p v' u [⟨0, 8, 3⟩] [] 0 ∧ Keep (fun z => z = p) w w' := by
  obtain ⟨g, cap, rfl, hBg, hcap, hgl⟩ := hR.hv.form (by simp)
  have hlen : ([⟨0, 8, 2⟩] : List Fl).length = 1 := rfl
  rw [hlen] at hR
  have K1 : Hid (Keep (fun _ => False) w ((w.alloc (.cells #[.int .i64 0] 3)).alloc (.cells #[.int .i64 0, .int .i64 10, .int .i64 1] 40))) := ((Keep.refl _ _).alloc _).alloc _
  have HR1 := Lib.hid (hR.keep0 K1.out)
  have HN := Lib.hid (heap_alloc_new (w.alloc (.cells #[.int .i64 0] 3)) (.cells #[.int .i64 0, .int .i64 10, .int .i64 1] 40))
  have H5 : Hid (((w.alloc (.cells #[.int .i64 0] 3)).alloc (.cells #[.int .i64 0, .int .i64 10, .int .i64 1] 40)).cell? ⟨w.heap.size, 0, none⟩ = some (.int .i64 0)) := by
    unfold Hid
    rw [cell_alloc_lt (by simp), cell_block (heap_alloc_new w _)]; rfl
  obtain ⟨c0, c1, c2, c3⟩ := HR1.out.cs
  go_enter Try.func17, Try.ntmps17
  go_wp2
  have hn5 := World.size_alloc w (.cells #[.int .i64 0] 3)
  have hpl0 := block_lt hR.hp
  obtain ⟨wa, hwa⟩ : ∃ z, (w.alloc (.cells #[.int .i64 0] 3)).alloc (.cells #[.int .i64 0, .int .i64 10, .int .i64 1] 40) = z := ⟨_, rfl⟩
  rw [hwa] at K1 HR1 HN H5 c0 c1 c2 c3 ⊢
  clear hwa
  rw [hn5] at HN
  obtain ⟨n5, hn5'⟩ : ∃ z, w.heap.size = z := ⟨_, rfl⟩
  rw [hn5'] at HN H5 hpl0 hgl ⊢
  obtain ⟨n9, hn9⟩ : ∃ z, n5 + 1 = z := ⟨_, rfl⟩
  rw [hn9] at HN ⊢
  have hun : Hid (∀ x, u.ownBlock = some x → x < n5) := fun x hx => by have := (hR.hu.lt x hx).2; omega
  clear c0 c1 c2 c3
  go_loopw [10, 49] (fun o i wr => ∃ k : Nat, k ≤ 1 ∧ i = .int .i64 k ∧ o = .slice none 0 0 ∧ (k = 0 → wr.heap[n9]? = some (.cells #[.int .i64 0, .int .i64 10, .int .i64 1] 40 (0, 0))) ∧ (k = 1 → wr.heap[n9]? = some (.cells #[.int .i64 0, .int .i64 8, .int .i64 3] 40 (0, 0))) ∧ Keep (fun z => z = n9) wa wr) (fun _ i _ => 1 - (intOf i).toNat)
  case atStart => exact ⟨0, by omega, rfl, rfl, fun _ => HN.out, fun h => by omega, Keep.refl _ _⟩
  case round =>
    obtain ⟨k, hk, rfl, rfl, hk0, hk1, hkeep⟩ := hrel
    have HK := Lib.hid hkeep
    have HK0 := Lib.hid hk0
    have HK1 := Lib.hid hk1
    clear hkeep hk0 hk1
    have HRr := Lib.hid (HR1.out.keep HK.out (by omega) (fun z hz => by simp [Value.ownBlock] at hz; omega) (fun z hz => by have := hun.out z hz; omega))
    have hk2 : k = 0 ∨ k = 1 := by omega
    rcases hk2 with rfl | rfl
    · have hN := HK0.out rfl
      obtain ⟨b0, b1, b2⟩ := cells3 hN
      obtain ⟨c0, c1, c2⟩ := fl_cells (i := 0) HRr.out.hv (by simp)
      simp only [List.getElem_cons_zero, Nat.zero_mul, Nat.zero_add] at c0 c1 c2
      have h5 := (HK.out.cell (block_lt_cell H5.out) (by omega)).trans H5.out
      have KX : Hid (Keep (fun _ => False) wr (wr.alloc (.cells #[.int .i64 0, .int .i64 8, .int .i64 2] 40))) := (Keep.refl _ _).alloc _
      have HX := Lib.hid (heap_alloc_new wr (.cells #[.int .i64 0, .int .i64 8, .int .i64 2] 40))
      have hnl := block_lt hN
      have HN' := Lib.hid hN
      go_wp2_with (go_at_call 25; go_loud (refine (touch_yes n5 n9 _ ((cell_alloc_lt (block_lt_cell h5)).trans h5) ((cell_alloc_lt (block_lt_cell b1)).trans b1) ((cell_alloc_lt (block_lt_cell b2)).trans b2)).mono ?_; rintro e w5 ⟨rfl, hk5⟩; have HK5 := Lib.hid (KX.out.trans hk5); have HN5 := Lib.hid ((HK5.out.block n9 hnl id).trans HN'.out); obtain ⟨d0, d1, d2⟩ := cells3 ((hk5.block _ (block_lt HX.out) id).trans HX.out); obtain ⟨e0, e1, e2⟩ := cells3 HN5.out; have f1 : w5.frozen? ⟨n9, 1, none⟩ = false := frozen_block HN5.out; have f2 : w5.frozen? ⟨n9, 2, none⟩ = false := frozen_block HN5.out; have hne : wr.heap.size ≠ n9 := (by omega); clear hk5))
      go_roundw
      case rel =>
        refine ⟨1, by omega, by go_num, rfl, fun h => by omega, fun _ => ?_, ((HK.out.trans (HK5.out.mono (fun _ _ h => h.elim))).setCell (p := ⟨n9, 1, none⟩) (fun _ => rfl) _).setCell (p := ⟨n9, 2, none⟩) (fun _ => rfl) _⟩
        rw [heap_setCell_eq (heap_setCell_eq HN5.out)]; rfl
      case measure => simp [intOf]
    · have hN := HK1.out rfl
      obtain ⟨b0, b1, b2⟩ := cells3 hN
      obtain ⟨c0, c1, c2, c3⟩ := HRr.out.cs
      have hpl := block_lt HRr.out.hp
      have fz : wr.frozen? ⟨p, 1, none⟩ = false := frozen_block HRr.out.hp
      have hs1 := K1.out.size
      have hs2 := HK.out.size
      go_wp2_with (at_builtin; go_loud (refine wpl_app et28 rfl (.tmp 85) (.tmp 87) rfl wr.heap.size (.slice none 0 0) 0 [] rfl (World.ownsRow_nil _ _ _ _) (.slice (some ⟨wr.heap.size, 0, none⟩) 1 1) 1 [.int .i64 0, .int .i64 8, .int .i64 3] rfl (Reads.new (heap_alloc_new wr _) rfl 1) (by simp [Value.oneCell']) (by unfold maxLen; omega) (by omega) (by simp) ?_; intro v5 w5 hown5 hgrow5; obtain ⟨a5, l5, c5, rfl⟩ := own_slice hown5; have HK5 : Hid (Keep (fun _ => False) wr w5) := Keep.grown (by (repeat (first | exact Keep.refl _ _ | exact Keep.refl _ _ | refine Keep.drew ?_ | refine Keep.drewN ?_ _ | refine Keep.alloc ?_ _ | refine Keep.setNew ?_ (by omega) _)); done) hgrow5 (fun x h1 h2 => by simp [Value.ownBlock] at h1); obtain ⟨hz1, hz2⟩ := keepS2 HK5.out hpl id c1 fz; have HO5 := Lib.hid hown5; clear hown5 hgrow5))
      have hq := putP (L' := [⟨0, 8, 3⟩]) HRr.out (by omega) (by simp) HK5.out HO5.out rfl rfl
      go_ret
      have KF : Keep (fun z => z = p) w (w5.setCell ⟨p, 1, none⟩ (.slice a5 l5 c5)) := (((K1.out.mono (fun _ _ h => h.elim)).trans (HK.out.mono (T := fun z => z = p ∨ z = n9) (fun _ _ h => .inr h))).trans (hq.2.mono (fun _ _ h => .inl h))).mono (fun z hz h => by omega)
      first | exact ⟨rfl, ⟨_, hq.1⟩, KF⟩ | exact ⟨_, rfl, hq.1, KF⟩

end Go.Proofs.Ytibcfglfcoljgaa
