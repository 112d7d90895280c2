/- Gather: awake; GatherNone. -/
import Derived.Test.YtibcfglfcoljgaaC
import Derived.Test.YtibcfglfcoljgaaD
import Derived.Test.YtibcfglfcoljgaaArgs
set_option linter.unusedVariables false
set_option linter.unusedSimpArgs false
namespace Go.Proofs.Ytibcfglfcoljgaa
open Go.RowKit Go.Own

set_option maxRecDepth 100000 in
set_option maxHeartbeats 2000000 in
theorem awake_any (w : World) : Calls Try.prog 9 #[] w fun e w' => e = .returned (.bool true) ∧ Keep (fun _ => False) w w' := by
  go_enter Try.func9, Try.ntmps9
  go_wp2_with fail
  refine (new_one w.heap.size _ (Nat.le_refl _)).mono ?_
  rintro e w1 ⟨p, rfl, hR, hp, hk⟩
  have H1 := Lib.hid hR
  have K1 : Hid (Keep (fun x => w.heap.size ≤ x) w w1) := hk.mono (fun _ _ h => h.elim)
  clear hR hk
  go_wp2_with fail
  refine (pages_first w.heap.size p _ _ _ K1.out.size H1.out).mono ?_
  rintro e w2 ⟨v2, rfl, hR, hk⟩
  have H2 := Lib.hid hR
  have K2 := Lib.hid (K1.out.trans (hk.mono (T := fun x => w.heap.size ≤ x) (fun _ _ h => by omega)))
  clear hR hk K1
  go_wp2_with fail
  refine (pages_second w.heap.size p _ _ _ K2.out.size H2.out).mono ?_
  rintro e w3 ⟨v3, rfl, hR, hk⟩
  have H3 := Lib.hid hR
  have K3 := Lib.hid (K2.out.trans (hk.mono (T := fun x => w.heap.size ≤ x) (fun _ _ h => by omega)))
  clear hR hk K2
  go_wp2_with fail
  refine (frames_first w.heap.size p _ _ _ _ K3.out.size H3.out).mono ?_
  rintro e w4 ⟨u4, rfl, hR, hk⟩
  have H4 := Lib.hid hR
  have K4 := Lib.hid (K3.out.trans (hk.mono (T := fun x => w.heap.size ≤ x) (fun _ _ h => by omega)))
  clear hR hk K3
  go_wp2_with fail
  refine (full_one w.heap.size p _ _ _ _ _ _ H4.out).mono ?_
  rintro e w5 ⟨rfl, hk⟩
  have H5 := Lib.hid (H4.out.keep0 hk)
  have K5 := Lib.hid (K4.out.trans (hk.mono (T := fun x => w.heap.size ≤ x) (fun _ _ h => h.elim)))
  clear hk K4
  go_wp2_with fail
  have hvp := H5.out.nv
  have hup := H5.out.nu
  refine (take_one w.heap.size p _ _ _ _ _ H5.out).mono ?_
  rintro e w6 ⟨rfl, hR, hk⟩
  have H6 := Lib.hid hR
  have K6 := Lib.hid (K5.out.trans (hk.mono (T := fun x => w.heap.size ≤ x) (fun _ _ h => by omega)))
  have HV := Lib.hid (H5.out.hv.keep hk (fun x hx e => hvp (e ▸ hx)))
  have HU := Lib.hid (H5.out.hu.keep hk (fun x hx e => hup (e ▸ hx)))
  clear hR hk K5 hvp hup H4 H5
  obtain ⟨g, cap, rfl, hBg, hcap, hgl⟩ := HV.out.form (by simp)
  obtain ⟨g2, cap2, rfl, hBg2, hcap2, hgl2⟩ := HU.out.form (by simp)
  obtain ⟨c0, c1, c2⟩ := fl_cells (i := 0) HV.out (by simp)
  obtain ⟨d0, d1⟩ := bk_cells (i := 0) HU.out (by simp)
  simp only [List.getElem_cons_zero, Nat.zero_mul, Nat.zero_add] at c0 c1 c2 d0 d1
  have hl1 : ([⟨0, 8, 3⟩] : List Fl).length = 1 := rfl
  have hl2 : ([⟨5, 0⟩] : List Bk).length = 1 := rfl
  go_wp2_with (go_at_call 14; go_loud (refine (rounds_any w.heap.size p _ _ _ _ 1 _ H6.out).mono ?_; rintro e w7 ⟨rfl, rfl⟩))
  go_ret
  exact ⟨rfl, K6.out.mono (fun x h1 h2 => by omega)⟩

theorem s6 {w W : World} {b : Nat} {x0 x1 x2 x3 x4 x5 : Value} (K : Keep (fun _ => False) w W) (hb : w.heap[b]? = some (.cells #[x0, x1, x2, x3, x4, x5] 50 (0, 0))) :
    W.cell? ⟨b, 1, none⟩ = some x1 ∧ W.cell? ⟨b, 2, none⟩ = some x2 ∧ W.cell? ⟨b, 3, none⟩ = some x3 ∧ W.cell? ⟨b, 4, none⟩ = some x4 ∧ W.cell? ⟨b, 5, none⟩ = some x5 := by
  have h := (K.block b (block_lt hb) id).trans hb
  simp [cell_block h]

set_option maxHeartbeats 2000000 in
theorem none_walk (a s y n f o : Int) (w : World) : Calls Try.prog 7 #[.agg #[.int .i64 a, .int .i64 s, .int .i64 y, .int .i64 n, .int .i64 f, .int .i64 o]] w fun e w' => e = .returned (.bool true) ∧ Below w.heap.size w w' := by
  have KW : Hid (Keep (fun _ => False) w (w.alloc (.cells #[.int .i64 a, .int .i64 s, .int .i64 y, .int .i64 n, .int .i64 f, .int .i64 o] 50))) := (Keep.refl _ _).alloc _
  have HW := Lib.hid (heap_alloc_new w (.cells #[.int .i64 a, .int .i64 s, .int .i64 y, .int .i64 n, .int .i64 f, .int .i64 o] 50))
  go_enter Try.func7, Try.ntmps7
  go_wp2_with (first | (go_at_call 10; go_loud (refine (take_nil _).mono ?_; rintro e w1 ⟨rfl, hk1⟩; have K1 := Lib.hid hk1; clear hk1)) | (go_at_call 9; go_loud (refine (awake_any _).mono ?_; rintro e w2 ⟨rfl, hk2⟩; have K2 := Lib.hid (K1.out.trans hk2); clear hk2)) | (go_at_call 14; go_loud (refine (rounds_nil _).mono ?_; rintro e w3 ⟨rfl, rfl⟩)) | (go_at_call 20; go_loud (refine (full_nil _).mono ?_; rintro e w4 ⟨rfl, hk4⟩; have K4 := Lib.hid (K2.out.trans hk4); clear hk4; obtain ⟨p1, p2, p3, p4, p5⟩ := s6 K4.out HW.out)) | (go_at_call 17; go_loud (refine (pages_nil _ _ _ _).mono ?_; rintro e w5 ⟨rfl, hk5⟩; have K5 := Lib.hid (K4.out.trans hk5); clear hk5; obtain ⟨q1, q2, q3, q4, q5⟩ := s6 K5.out HW.out)) | (go_at_call 18; go_loud (refine (frames_nil _ _ _).mono ?_; rintro e w6 ⟨rfl, hk6⟩; have K6 := Lib.hid (K5.out.trans hk6); clear hk6)))
  go_ret
  exact ⟨rfl, (KW.out.trans K6.out).below⟩

end Go.Proofs.Ytibcfglfcoljgaa
