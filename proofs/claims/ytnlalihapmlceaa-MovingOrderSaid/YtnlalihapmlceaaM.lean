/- MovingOrder: the walk, joined. -/
import Derived.Test.YtnlalihapmlceaaK
set_option linter.unusedVariables false
set_option linter.unusedSimpArgs false
namespace Go.Proofs.Ytnlalihapmlceaa
open Go.RowKit Go.Own

theorem IV.mid {w0 w w' : World} {p st : Nat} {v v' : Value} {L : List Mv} {T : List Int} {k : Int} (h : IV w0 w p st v L T k) (hk : Keep (fun x => x = p ∨ v.ownBlock = some x) w w')
    (hv : ∀ x, v'.ownBlock = some x → v.ownBlock = some x ∨ w.heap.size ≤ x) : v'.ownBlock ≠ some st ∧ w'.heap[st]? = some (rowI T) ∧ Keep (fun _ => False) w0 w' := by
  have hsl := block_lt h.hs
  have hvs := h.vs
  have hlt := h.rep.hv.lt
  have hpB := h.pB
  have hne := h.ne
  refine ⟨fun e => ?_, (hk.block st hsl (fun e => ?_)).trans h.hs, ((h.kp.mono (T := fun x => w0.heap.size ≤ x) (fun _ _ h => h.elim)).trans ((hk.mono (T := fun x => w0.heap.size ≤ x) (fun x _ e => ?_)))) |>.mono (fun x h1 h2 => by omega)⟩
  · rcases hv _ e with e | e
    · exact hvs e
    · omega
  · rcases e with e | e
    · exact hne e
    · exact hvs e
  · rcases e with rfl | e
    · exact hpB
    · exact (hlt x e).1

set_option maxRecDepth 100000 in
set_option maxHeartbeats 4000000 in
theorem order_walk (la : Option Addr) (l c : Nat) (w : World) (hr : RowsAt w la l [.int .i64, .int .i64, .int .i64]) :
    Calls Try.prog 5 #[.slice la l c] w fun e w' => e = .returned (.bool true) ∧ Below w.heap.size w w' := by
  obtain ⟨A, rfl, hA⟩ := acts3_of_rows hr
  have H1 := Lib.hid hA
  clear hA
  go_enter Try.func5, Try.ntmps5
  go_wp2_with (first | (go_at_call 16; refine (new_yes 9 w.heap.size _ (by omega) (by omega) (Nat.le_refl _)).mono ?_; rintro e w1 ⟨p, rfl, hR, hp, hk⟩; have HR := Lib.hid hR; have HK := Lib.hid hk; clear hR hk) | (go_at_call 10; refine (awake_any _).mono ?_; rintro e w2 ⟨rfl, hk⟩; have HR2 := Lib.hid (HR.out.keep hk id (fun _ _ => id)); have HK2 := Lib.hid (HK.out.trans hk); clear hk) | (at_make; refine wpl_make et44 rfl _ _ rfl w2.heap.size 1024 1024 1024 rfl rfl rfl rfl (by decide) (by decide) rfl (Nat.le_refl _) ?_; intro w3 hown hgrow; have HO := Lib.hid hown; have HG := Lib.hid hgrow; clear hown hgrow))
  have HI0 : Hid (IV w w3 p w2.heap.size (.slice none 0 0) [] (List.replicate 1024 0) 0) := by
    have hpl := block_lt HR2.out.hp
    have k3 : Keep (fun _ => False) w2 w3 := Keep.grown (Keep.refl _ _) HG.out (fun x h1 h2 => by simp at h1)
    refine ⟨HR2.out.keep k3 id (fun _ _ => id), by simp [Value.ownBlock], hp, HK2.out.size, by omega, ?_, Ord.nil 0, HK2.out.trans k3⟩
    rw [(ownsRow_full HO.out).1]; unfold rowI; rw [List.map_replicate]
  obtain ⟨st, hst⟩ : ∃ x, w2.heap.size = x := ⟨_, rfl⟩
  rw [hst] at HI0 ⊢
  clear HR HR2 HK HK2 HO HG hst
  go_loopw [6] (fun i wr => ∃ k : Nat, k ≤ A.length ∧ k ≤ 60 ∧ i = .int .i64 k ∧ ∃ v L T, IV w wr p st v L T k) (fun i _ => A.length - (intOf i).toNat)
  case atStart => exact ⟨0, by omega, by omega, rfl, _, _, _, HI0.out⟩
  case round =>
    obtain ⟨k, hk, h60, rfl, v, L, T, hIV⟩ := hrel
    have HI := Lib.hid hIV
    clear hIV
    have hlT := HI.out.od.len
    have hsl := block_lt HI.out.hs
    by_cases hlt : k < A.length ∧ k < 60
    · obtain ⟨hlt, hl60⟩ := hlt
      obtain ⟨b, o, rfl, c1, c2, c3⟩ := H1.out k hlt
      have d1 := (HI.out.kp.cell (block_lt_cell c1) id).trans c1
      have d2 := (HI.out.kp.cell (block_lt_cell c1) id).trans c2
      have d3 := (HI.out.kp.cell (block_lt_cell c1) id).trans c3
      clear c1 c2 c3
      have hpl := block_lt HI.out.rep.hp
      have hwz := HI.out.kp.size
      obtain ⟨K, hK⟩ : ∃ x, A[k].k = x := ⟨_, rfl⟩
      obtain ⟨f, hf⟩ : ∃ x, A[k].f = x := ⟨_, rfl⟩
      obtain ⟨t, ht⟩ : ∃ x, A[k].t = x := ⟨_, rfl⟩
      rw [hK] at d1
      rw [hf] at d2
      rw [ht] at d3
      clear hK hf ht
      by_cases k0 : K = 0 ∨ K = 1 ∨ K = 2
      · rcases k0 with rfl | rfl | rfl
        all_goals
          by_cases hb : beginE L 9 f t = 0
          · obtain ⟨f0, f1, tz, ho⟩ := HI.out.od.begin (by omega) hb
            obtain ⟨f, rfl⟩ := Int.eq_ofNat_of_zero_le f0
            simp only [Int.toNat_natCast] at tz ho
            have HO := Lib.hid ho
            have HB := Lib.hid hb
            have hf1 : f < 1024 := by omega
            have TZ := Lib.hid tz
            have hS : Hid (beginS L 9 f t = beginL L f t) := by unfold Hid beginS; rw [if_pos hb]
            clear ho hb tz
            go_wp2_with (go_at_call 17; refine (begin_any w.heap.size p v 9 L f t _ (by simp; omega) (HI.out.rep.keep (S := fun _ => False) (by (repeat (first | exact Keep.refl _ _ | exact Keep.refl _ _ | refine Keep.drew ?_ | refine Keep.drewN ?_ _ | refine Keep.alloc ?_ _ | refine Keep.setNew ?_ (by omega) _)); done) id (fun _ _ => id))).mono ?_; rw [HB.out]; rintro e w4 ⟨v4, rfl, hR4, hk4, hv4⟩; obtain ⟨x0, x1, x2⟩ := kept3 hk4 (heap_alloc_new wr _) (by omega); have HK4 : Hid (Keep (fun x => x = p ∨ v.ownBlock = some x) wr w4) := Keep.trans (by (repeat (first | exact Keep.refl _ _ | exact Keep.refl _ _ | refine Keep.drew ?_ | refine Keep.drewN ?_ _ | refine Keep.alloc ?_ _ | refine Keep.setNew ?_ (by omega) _)); done) (hk4.mono (fun x _ h => by exact .inl h)); obtain ⟨m1, m2, m3⟩ := HI.out.mid HK4.out (v' := v4) (by exact fun x hx => by have := hv4 x hx; simp at this; rcases this with h | h; exact .inl h; exact .inr (by omega)); have M1 := Lib.hid m1; have M2 := Lib.hid m2; have M3 := Lib.hid m3; have HR4 := Lib.hid hR4; clear m1 m2 m3 hR4; have y0 : w4.cell? ⟨st, f, none⟩ = some (.int .i64 (gi T f)) := cell_rowI M2.out (by omega); have y1 : w4.frozen? ⟨st, f, none⟩ = false := frozen_rowI M2.out; rw [TZ.out] at y0)
            go_roundw
            case rel => exact ⟨k + 1, by omega, by omega, by go_num, v4, _, _, IV.put (L := beginL L f t) (by have := HR4.out; rw [hS.out] at this; exact this) M1.out HI.out.pB HI.out.sB HI.out.ne M2.out M3.out (HO.out.age (by omega))⟩
            case measure => simp [intOf]; omega
          · have hb' : (beginE L 9 f t == 0) = false := by simpa using hb
            have HS := (show beginS L 9 f t = L by unfold beginS; rw [if_neg hb])
            have HS := Lib.hid HS
            clear hb
            go_wp2_with (go_at_call 17; refine (begin_any w.heap.size p v 9 L f t _ (by simp; omega) (HI.out.rep.keep (S := fun _ => False) (by (repeat (first | exact Keep.refl _ _ | exact Keep.refl _ _ | refine Keep.drew ?_ | refine Keep.drewN ?_ _ | refine Keep.alloc ?_ _ | refine Keep.setNew ?_ (by omega) _)); done) id (fun _ _ => id))).mono ?_; rintro e w4 ⟨v4, rfl, hR4, hk4, hv4⟩; obtain ⟨x0, x1, x2⟩ := kept3 hk4 (heap_alloc_new wr _) (by omega); have HK4 : Hid (Keep (fun x => x = p ∨ v.ownBlock = some x) wr w4) := Keep.trans (by (repeat (first | exact Keep.refl _ _ | exact Keep.refl _ _ | refine Keep.drew ?_ | refine Keep.drewN ?_ _ | refine Keep.alloc ?_ _ | refine Keep.setNew ?_ (by omega) _)); done) (hk4.mono (fun x _ h => by exact .inl h)); obtain ⟨m1, m2, m3⟩ := HI.out.mid HK4.out (v' := v4) (by exact fun x hx => by have := hv4 x hx; simp at this; rcases this with h | h; exact .inl h; exact .inr (by omega)); have M1 := Lib.hid m1; have M2 := Lib.hid m2; have M3 := Lib.hid m3; have HR4 := Lib.hid hR4; clear m1 m2 m3 hR4; rw [HS.out] at HR4)
            go_roundw
            case rel => exact ⟨k + 1, by omega, by omega, by go_num, v4, L, T, HR4.out, M1.out, HI.out.pB, HI.out.sB, HI.out.ne, M2.out, HI.out.od.age (by omega), M3.out⟩
            case measure => simp [intOf]; omega
      by_cases k1 : K = 3 ∨ K = 4
      · rcases k1 with rfl | rfl
        all_goals
          by_cases hb : copyE L f = 0
          · obtain ⟨f0, f1, tz, ho⟩ := HI.out.od.copy hb
            obtain ⟨f, rfl⟩ := Int.eq_ofNat_of_zero_le f0
            simp only [Int.toNat_natCast] at tz ho
            have HO := Lib.hid ho
            have HB := Lib.hid hb
            have hf1 : f < 1024 := by omega
            have TZ := Lib.hid tz
            skip
            clear ho hb tz
            go_wp2_with (go_at_call 18; refine (copy_any w.heap.size p v 9 L f _ (HI.out.rep.keep (S := fun _ => False) (by (repeat (first | exact Keep.refl _ _ | exact Keep.refl _ _ | refine Keep.drew ?_ | refine Keep.drewN ?_ _ | refine Keep.alloc ?_ _ | refine Keep.setNew ?_ (by omega) _)); done) id (fun _ _ => id))).mono ?_; rw [HB.out]; rintro e w4 ⟨rfl, hR4, hk4⟩; obtain ⟨x0, x1, x2⟩ := kept3 hk4 (heap_alloc_new wr _) (by intro h; rcases h with h | h; omega; have := (HI.out.rep.hv.lt _ h).2; omega); have HK4 : Hid (Keep (fun x => x = p ∨ v.ownBlock = some x) wr w4) := Keep.trans (by (repeat (first | exact Keep.refl _ _ | exact Keep.refl _ _ | refine Keep.drew ?_ | refine Keep.drewN ?_ _ | refine Keep.alloc ?_ _ | refine Keep.setNew ?_ (by omega) _)); done) (hk4.mono (fun x _ h => by exact h)); obtain ⟨m1, m2, m3⟩ := HI.out.mid HK4.out (v' := v) (by exact fun x hx => .inl hx); have M1 := Lib.hid m1; have M2 := Lib.hid m2; have M3 := Lib.hid m3; have HR4 := Lib.hid hR4; clear m1 m2 m3 hR4; have y0 : w4.cell? ⟨st, f, none⟩ = some (.int .i64 (gi T f)) := cell_rowI M2.out (by omega); have y1 : w4.frozen? ⟨st, f, none⟩ = false := frozen_rowI M2.out; rw [TZ.out] at y0)
            go_roundw
            case rel => exact ⟨k + 1, by omega, by omega, by go_num, v, _, _, IV.put HR4.out M1.out HI.out.pB HI.out.sB HI.out.ne M2.out M3.out (HO.out.age (by omega))⟩
            case measure => simp [intOf]; omega
          · have hb' : (copyE L f == 0) = false := by simpa using hb
            have HS := (show copyL L f = L by unfold copyL; rw [if_neg hb])
            have HS := Lib.hid HS
            clear hb
            go_wp2_with (go_at_call 18; refine (copy_any w.heap.size p v 9 L f _ (HI.out.rep.keep (S := fun _ => False) (by (repeat (first | exact Keep.refl _ _ | exact Keep.refl _ _ | refine Keep.drew ?_ | refine Keep.drewN ?_ _ | refine Keep.alloc ?_ _ | refine Keep.setNew ?_ (by omega) _)); done) id (fun _ _ => id))).mono ?_; rintro e w4 ⟨rfl, hR4, hk4⟩; obtain ⟨x0, x1, x2⟩ := kept3 hk4 (heap_alloc_new wr _) (by intro h; rcases h with h | h; omega; have := (HI.out.rep.hv.lt _ h).2; omega); have HK4 : Hid (Keep (fun x => x = p ∨ v.ownBlock = some x) wr w4) := Keep.trans (by (repeat (first | exact Keep.refl _ _ | exact Keep.refl _ _ | refine Keep.drew ?_ | refine Keep.drewN ?_ _ | refine Keep.alloc ?_ _ | refine Keep.setNew ?_ (by omega) _)); done) (hk4.mono (fun x _ h => by exact h)); obtain ⟨m1, m2, m3⟩ := HI.out.mid HK4.out (v' := v) (by exact fun x hx => .inl hx); have M1 := Lib.hid m1; have M2 := Lib.hid m2; have M3 := Lib.hid m3; have HR4 := Lib.hid hR4; clear m1 m2 m3 hR4; rw [HS.out] at HR4)
            go_roundw
            case rel => exact ⟨k + 1, by omega, by omega, by go_num, v, L, T, HR4.out, M1.out, HI.out.pB, HI.out.sB, HI.out.ne, M2.out, HI.out.od.age (by omega), M3.out⟩
            case measure => simp [intOf]; omega
      by_cases k2 : K = 5
      · subst k2
        by_cases hb : (finR L f).2 = 0
        · obtain ⟨f0, f1, tz, ho⟩ := HI.out.od.fin hb
          obtain ⟨f, rfl⟩ := Int.eq_ofNat_of_zero_le f0
          simp only [Int.toNat_natCast] at tz ho
          have HO := Lib.hid ho
          have HB := Lib.hid hb
          have hf1 : f < 1024 := by omega
          have TZ := Lib.hid tz
          skip
          clear ho hb tz
          go_wp2_with (go_at_call 19; refine (fin_any w.heap.size p v 9 L f _ (by simp; omega) (HI.out.rep.keep (S := fun _ => False) (by (repeat (first | exact Keep.refl _ _ | exact Keep.refl _ _ | refine Keep.drew ?_ | refine Keep.drewN ?_ _ | refine Keep.alloc ?_ _ | refine Keep.setNew ?_ (by omega) _)); done) id (fun _ _ => id))).mono ?_; rw [HB.out]; rintro e w4 ⟨v4, rfl, hR4, hk4, hv4⟩; obtain ⟨x0, x1, x2⟩ := kept3 hk4 (heap_alloc_new wr _) (by omega); have HK4 : Hid (Keep (fun x => x = p ∨ v.ownBlock = some x) wr w4) := Keep.trans (by (repeat (first | exact Keep.refl _ _ | exact Keep.refl _ _ | refine Keep.drew ?_ | refine Keep.drewN ?_ _ | refine Keep.alloc ?_ _ | refine Keep.setNew ?_ (by omega) _)); done) (hk4.mono (fun x _ h => by exact .inl h)); obtain ⟨m1, m2, m3⟩ := HI.out.mid HK4.out (v' := v4) (by exact fun x hx => by have := hv4 x hx; simp at this; rcases this with h | h; exact .inl h; exact .inr (by omega)); have M1 := Lib.hid m1; have M2 := Lib.hid m2; have M3 := Lib.hid m3; have HR4 := Lib.hid hR4; clear m1 m2 m3 hR4; have y0 : w4.cell? ⟨st, f, none⟩ = some (.int .i64 (gi T f)) := cell_rowI M2.out (by omega); have y1 : w4.frozen? ⟨st, f, none⟩ = false := frozen_rowI M2.out; rw [TZ.out] at y0)
          go_roundw
          case rel => exact ⟨k + 1, by omega, by omega, by go_num, v4, _, _, IV.put HR4.out M1.out HI.out.pB HI.out.sB HI.out.ne M2.out M3.out (HO.out.age (by omega))⟩
          case measure => simp [intOf]; omega
        · have hb' : ((finR L f).2 == 0) = false := by simpa using hb
          have HS := fin_no hb
          have HS := Lib.hid HS
          clear hb
          go_wp2_with (go_at_call 19; refine (fin_any w.heap.size p v 9 L f _ (by simp; omega) (HI.out.rep.keep (S := fun _ => False) (by (repeat (first | exact Keep.refl _ _ | exact Keep.refl _ _ | refine Keep.drew ?_ | refine Keep.drewN ?_ _ | refine Keep.alloc ?_ _ | refine Keep.setNew ?_ (by omega) _)); done) id (fun _ _ => id))).mono ?_; rintro e w4 ⟨v4, rfl, hR4, hk4, hv4⟩; obtain ⟨x0, x1, x2⟩ := kept3 hk4 (heap_alloc_new wr _) (by omega); have HK4 : Hid (Keep (fun x => x = p ∨ v.ownBlock = some x) wr w4) := Keep.trans (by (repeat (first | exact Keep.refl _ _ | exact Keep.refl _ _ | refine Keep.drew ?_ | refine Keep.drewN ?_ _ | refine Keep.alloc ?_ _ | refine Keep.setNew ?_ (by omega) _)); done) (hk4.mono (fun x _ h => by exact .inl h)); obtain ⟨m1, m2, m3⟩ := HI.out.mid HK4.out (v' := v4) (by exact fun x hx => by have := hv4 x hx; simp at this; rcases this with h | h; exact .inl h; exact .inr (by omega)); have M1 := Lib.hid m1; have M2 := Lib.hid m2; have M3 := Lib.hid m3; have HR4 := Lib.hid hR4; clear m1 m2 m3 hR4; rw [HS.out] at HR4)
          go_roundw
          case rel => exact ⟨k + 1, by omega, by omega, by go_num, v4, L, T, HR4.out, M1.out, HI.out.pB, HI.out.sB, HI.out.ne, M2.out, HI.out.od.age (by omega), M3.out⟩
          case measure => simp [intOf]; omega
      by_cases k3 : K = 6
      · subst k3
        by_cases hb : (abortR L f).2 = 0
        · obtain ⟨f0, f1, tz, ho⟩ := HI.out.od.abort hb
          obtain ⟨f, rfl⟩ := Int.eq_ofNat_of_zero_le f0
          simp only [Int.toNat_natCast] at tz ho
          have HO := Lib.hid ho
          have HB := Lib.hid hb
          have hf1 : f < 1024 := by omega
          have TZ := Lib.hid tz
          have tz2 : (gi T f == 0) = false := by simpa using tz
          clear ho hb tz
          go_wp2_with (go_at_call 20; refine (abort_any w.heap.size p v 9 L f _ (by simp; omega) (HI.out.rep.keep (S := fun _ => False) (by (repeat (first | exact Keep.refl _ _ | exact Keep.refl _ _ | refine Keep.drew ?_ | refine Keep.drewN ?_ _ | refine Keep.alloc ?_ _ | refine Keep.setNew ?_ (by omega) _)); done) id (fun _ _ => id))).mono ?_; rw [HB.out]; rintro e w4 ⟨v4, rfl, hR4, hk4, hv4⟩; obtain ⟨x0, x1, x2⟩ := kept3 hk4 (heap_alloc_new wr _) (by omega); have HK4 : Hid (Keep (fun x => x = p ∨ v.ownBlock = some x) wr w4) := Keep.trans (by (repeat (first | exact Keep.refl _ _ | exact Keep.refl _ _ | refine Keep.drew ?_ | refine Keep.drewN ?_ _ | refine Keep.alloc ?_ _ | refine Keep.setNew ?_ (by omega) _)); done) (hk4.mono (fun x _ h => by exact .inl h)); obtain ⟨m1, m2, m3⟩ := HI.out.mid HK4.out (v' := v4) (by exact fun x hx => by have := hv4 x hx; simp at this; rcases this with h | h; exact .inl h; exact .inr (by omega)); have M1 := Lib.hid m1; have M2 := Lib.hid m2; have M3 := Lib.hid m3; have HR4 := Lib.hid hR4; clear m1 m2 m3 hR4; have y0 : w4.cell? ⟨st, f, none⟩ = some (.int .i64 (gi T f)) := cell_rowI M2.out (by omega); have y1 : w4.frozen? ⟨st, f, none⟩ = false := frozen_rowI M2.out; skip)
          go_roundw
          case rel => exact ⟨k + 1, by omega, by omega, by go_num, v4, _, _, IV.put HR4.out M1.out HI.out.pB HI.out.sB HI.out.ne M2.out M3.out (HO.out.age (by omega))⟩
          case measure => simp [intOf]; omega
        · have hb' : ((abortR L f).2 == 0) = false := by simpa using hb
          have HS := abort_no hb
          have HS := Lib.hid HS
          clear hb
          go_wp2_with (go_at_call 20; refine (abort_any w.heap.size p v 9 L f _ (by simp; omega) (HI.out.rep.keep (S := fun _ => False) (by (repeat (first | exact Keep.refl _ _ | exact Keep.refl _ _ | refine Keep.drew ?_ | refine Keep.drewN ?_ _ | refine Keep.alloc ?_ _ | refine Keep.setNew ?_ (by omega) _)); done) id (fun _ _ => id))).mono ?_; rintro e w4 ⟨v4, rfl, hR4, hk4, hv4⟩; obtain ⟨x0, x1, x2⟩ := kept3 hk4 (heap_alloc_new wr _) (by omega); have HK4 : Hid (Keep (fun x => x = p ∨ v.ownBlock = some x) wr w4) := Keep.trans (by (repeat (first | exact Keep.refl _ _ | exact Keep.refl _ _ | refine Keep.drew ?_ | refine Keep.drewN ?_ _ | refine Keep.alloc ?_ _ | refine Keep.setNew ?_ (by omega) _)); done) (hk4.mono (fun x _ h => by exact .inl h)); obtain ⟨m1, m2, m3⟩ := HI.out.mid HK4.out (v' := v4) (by exact fun x hx => by have := hv4 x hx; simp at this; rcases this with h | h; exact .inl h; exact .inr (by omega)); have M1 := Lib.hid m1; have M2 := Lib.hid m2; have M3 := Lib.hid m3; have HR4 := Lib.hid hR4; clear m1 m2 m3 hR4; rw [HS.out] at HR4)
          go_roundw
          case rel => exact ⟨k + 1, by omega, by omega, by go_num, v4, L, T, HR4.out, M1.out, HI.out.pB, HI.out.sB, HI.out.ne, M2.out, HI.out.od.age (by omega), M3.out⟩
          case measure => simp [intOf]; omega
      have q0 : (K == 0) = false := by simp; omega
      have q1 : (K == 1) = false := by simp; omega
      have q2 : (K == 2) = false := by simp; omega
      have q3 : (K == 3) = false := by simp; omega
      have q4 : (K == 4) = false := by simp; omega
      have q5 : (K == 5) = false := by simp; omega
      have q6 : (K == 6) = false := by simp; omega
      clear k0 k1 k2 k3
      go_wp2_with (go_at_call 21; refine (tick_any w.heap.size p v 9 L _ (HI.out.rep.keep (S := fun _ => False) (by (repeat (first | exact Keep.refl _ _ | exact Keep.refl _ _ | refine Keep.drew ?_ | refine Keep.drewN ?_ _ | refine Keep.alloc ?_ _ | refine Keep.setNew ?_ (by omega) _)); done) id (fun _ _ => id)) (fun x hx => by have := HI.out.od.ok x hx; omega)).mono ?_; rintro e w4 ⟨rfl, hR4, hk4⟩; have HK4 : Hid (Keep (fun x => x = p ∨ v.ownBlock = some x) wr w4) := Keep.trans (by (repeat (first | exact Keep.refl _ _ | exact Keep.refl _ _ | refine Keep.drew ?_ | refine Keep.drewN ?_ _ | refine Keep.alloc ?_ _ | refine Keep.setNew ?_ (by omega) _)); done) hk4; have HR4 := Lib.hid hR4; clear hR4 hk4)
      go_roundw
      case rel => exact ⟨k + 1, by omega, by omega, by go_num, v, _, T, HI.out.next HR4.out HK4.out (fun x hx => .inl hx) (HI.out.od.tick.age (by omega))⟩
      case measure => simp [intOf]; omega
    · have hcn := Lib.hid HI.out.od.cn
      have hlL := HI.out.rep.hl
      by_cases h1 : k < A.length
      all_goals
        try have h2 : ¬ k < 60 := fun h => hlt ⟨h1, h⟩
        clear hlt
        go_wp2
        go_loop [12, 13] (fun n i => ∃ j : Nat, j ≤ 1024 ∧ i = .int .i64 j ∧ n = .int .i64 (rlenN T j)) (fun _ i => 1024 - (intOf i).toNat)
        case atStart => exact ⟨0, by omega, rfl, rfl⟩
        case round =>
          obtain ⟨j, hj, rfl, rfl⟩ := hrel
          have hb := rlenN_le T j
          have HS : Hid (rlenN T (j + 1) = rlenN T j + if 0 < gi T j then 1 else 0) := rfl
          by_cases hlt : j < 1024
          · have hc : wr.cell? ⟨st, j, none⟩ = some (.int .i64 (gi T j)) := cell_rowI HI.out.hs (by omega)
            by_cases h0 : 0 < gi T j
            · go_wp2
              go_round
              case rel => exact ⟨j + 1, by omega, by go_num, by rw [HS.out, if_pos h0]; go_num⟩
              case measure => simp [intOf]; omega
            · go_wp2
              go_round
              case rel => exact ⟨j + 1, by omega, by go_num, by rw [HS.out, if_neg h0]; go_num⟩
              case measure => simp [intOf]; omega
          · obtain rfl : j = 1024 := by omega
            have hall : ((L.length : Int) == (rlenN T 1024 : Int)) = true := by rw [hcn.out]; simp
            go_wp2_with (go_at_call 14; refine (all_any w.heap.size p v 9 L _ HI.out.rep).mono ?_; rintro e w5 ⟨v5, rfl, hO, hk5⟩; obtain ⟨a5, c5, rfl, -⟩ := hO.slice)
            go_ret
            exact ⟨rfl, (HI.out.kp.trans hk5).below⟩

end Go.Proofs.Ytnlalihapmlceaa
