/- MovingOld: the walk. -/
import Derived.Test.YtnlalihapmlceaaY
set_option linter.unusedVariables false
set_option linter.unusedSimpArgs false
namespace Go.Proofs.Ytnlalihapmlceaa
open Go.RowKit Go.Own

theorem in_cell {w : World} {B : Nat} {g n cap i : Nat} {Q : List Int} (h : OwnL inE w B 3 (.slice (some ⟨g, 0, none⟩) n cap) Q) (hi : i < Q.length) :
    w.cell? ⟨g, i, none⟩ = some (.int .i64 Q[i]) := by
  have := OwnL.cell (j := 0) h hi (by decide)
  simpa [inE] using this

theorem find_old {T S A : List Int} (h : Good T S A 60) {x : Mv} (hx : x ∈ rows T S A) : rfind T S A x.f = some x := by
  rw [← find_eq h.ls]; exact find_uniq h hx (.inl rfl)

set_option maxRecDepth 100000 in
set_option maxHeartbeats 4000000 in
theorem old_walk (la : Option Addr) (l c : Nat) (age : Int) (w : World) (hr : RowsAt w la l [.int .i64, .int .i64, .int .i64]) :
    Calls Try.prog 7 #[.slice la l c, .int .i64 age] w fun e w' => e = .returned (.bool true) ∧ Below w.heap.size w w' := by
  obtain ⟨A, rfl, hA⟩ := acts3_of_rows hr
  have H1 := Lib.hid hA
  clear hA hr
  go_enter Try.func7, Try.ntmps7
  go_wp2_with (first | (go_at_call 9; go_loud (refine (made_yes 9 la A c _ (by omega) (by omega) H1.out).mono ?_; rintro e w1 ⟨p, v, q, t, s, a, T, S, G, rfl, hT, hk1⟩; have HT := Lib.hid hT; have K1 := Lib.hid hk1; clear hT hk1)) | (go_at_call 10; go_loud (refine (awake_any _).mono ?_; rintro e w2 ⟨rfl, hk2⟩; have HT2 := Lib.hid (HT.out.keep0 hk2); have K2 := Lib.hid (K1.out.trans hk2); clear hk2)))
  have hL9 : Hid ((rows T S G).length ≤ 9) := by
    have := HT2.out.ln
    unfold Hid rows; rw [rowsN_length]; omega
  have HFI := Lib.hid (rows_fine HT2.out.gd)
  have HDJ := Lib.hid (rows_dj HT2.out.gd)
  refine (old_any _ p v 9 (rows T S G) age _ HT2.out.rm (by have := hL9.out; omega) (fun x hx => by have := (HFI.out x hx).2.2.2; omega)).mono ?_
  rintro e w3 ⟨v3, D, rfl, hD1, hD2, hO3, hk3⟩
  have HD1 := Lib.hid hD1
  have HD2 := Lib.hid hD2
  have HO3 := Lib.hid hO3
  have HT3 := Lib.hid (HT2.out.keep0 hk3)
  have K3 := Lib.hid (K2.out.trans hk3)
  have HDl := hD1.length_eq
  have hDle : D.length ≤ (rows T S G).length := by rw [HDl]; exact List.length_filter_le _ _
  have HMEM : Hid (∀ x, x ∈ D → x ∈ rows T S G ∧ age ≤ x.a) := by
    intro x hx
    have := List.mem_filter.mp (hD1.mem_iff.mp hx)
    exact ⟨this.1, by simpa [oldP] using this.2⟩
  have hp3 : Hid (p < w2.heap.size) := block_lt HT2.out.rm.hp
  obtain ⟨a3, c3, rfl, hag⟩ := hO3.slice
  have HAG := Lib.hid hag
  have hml : (D.map Mv.f).length = D.length := by simp
  have hl9 := hL9.out
  clear HT HT2 K1 K2 hD1 hD2 hO3 hk3 hag
  go_wp2
  go_loopw [9, 10] (fun o i wr => ∃ k : Nat, k ≤ D.length ∧ i = .int .i64 k ∧ o = .int .i64 (if k = 0 then 1000 else ag D (k - 1)) ∧ Keep (fun _ => False) w3 wr) (fun _ i _ => D.length - (intOf i).toNat)
  case atStart => exact ⟨0, by omega, rfl, rfl, Keep.refl _ _⟩
  case round =>
    obtain ⟨k, hk, rfl, rfl, hkeep⟩ := hrel
    have HK := Lib.hid hkeep
    clear hkeep
    obtain ⟨last, hlast⟩ : ∃ z, (if k = 0 then (1000 : Int) else ag D (k - 1)) = z := ⟨_, rfl⟩
    have HLA := Lib.hid hlast
    rw [hlast]
    clear hlast
    by_cases hlt : k < D.length
    · obtain ⟨x, hx⟩ : ∃ x, D[k] = x := ⟨_, rfl⟩
      have hxm := HMEM.out x (by rw [← hx]; exact List.getElem_mem hlt)
      have hxf := (HFI.out x hxm.1).2.2.2
      have hle : x.a ≤ last := by
        rw [← HLA.out]
        by_cases h0 : k = 0
        · rw [if_pos h0]; omega
        · rw [if_neg h0]
          have := HD2.out (k - 1) k (by omega) hlt
          rw [ag_eq hlt, hx] at this
          exact this
      have hAk : Hid (ag D k = x.a) := by unfold Hid; rw [ag_eq hlt, hx]
      have hge := hxm.2
      obtain ⟨g, hg⟩ := HAG.out (by intro e; rw [List.map_eq_nil_iff] at e; rw [e] at hlt; simp at hlt)
      subst hg
      have c0 := in_cell (i := k) (HO3.out.keep HK.out (fun _ _ => id)) (by rw [hml]; exact hlt)
      simp only [List.getElem_map, hx] at c0
      have HFD := Lib.hid (find_old HT3.out.gd hxm.1)
      clear hx hxm
      try rw [hml]
      go_wp2_with (go_at_call 11; go_loud (refine (rfind_any x.f (HT3.out.rx.keep0 HK.out)).mono ?_; rw [HFD.out]; unfold mvV; rintro e w5 ⟨rfl, hk5⟩; have K5 : Hid (Keep (fun _ => False) wr (w5.alloc (.cells #[.int .i64 x.f, .int .i64 x.t, .int .i64 x.s, .int .i64 x.a] 31))) := hk5.alloc _; clear hk5; obtain ⟨y0, y1, y2, y3⟩ := cells4 (heap_alloc_new w5 (.cells #[.int .i64 x.f, .int .i64 x.t, .int .i64 x.s, .int .i64 x.a] 31)); have c0' := (K5.out.cell (block_lt_cell c0) id).trans c0; simp only [Option.getD_some, Option.isSome_some]))
      go_quiet (fail)
      go_wp2
      go_roundw
      case rel => exact ⟨k + 1, by omega, by go_num, by rw [if_neg (by omega), Nat.add_sub_cancel, hAk.out], HK.out.trans (K5.out.drewN _)⟩
      case measure => simp [intOf]; omega
    · obtain rfl : k = D.length := by omega
      obtain ⟨R, hR⟩ : ∃ R, ((rows T S G).filter fun x => !oldP age x) = R := ⟨_, rfl⟩
      have HLP : Hid ((rows T S G).Perm (D ++ R)) := by
        rw [← hR]
        exact (split_perm (rows T S G) (oldP age)).trans (HD1.out.symm.append_right _)
      have HRR := Lib.hid hR
      clear hR
      have hlen : (rows T S G).length = D.length + R.length := by rw [HLP.out.length_eq, List.length_append]
      have HDR : Hid ((D ++ R).Pairwise dj) := (HLP.out.pairwise_iff dj_symm).mp HDJ.out
      go_wp2_with (go_at_call 14; go_loud (refine (all_any _ p v 9 _ _ (HT3.out.keep0 HK.out).rm).mono ?_; rintro e w6 ⟨v6, rfl, hO6, hk6⟩; have HT6 := Lib.hid ((HT3.out.keep0 HK.out).keep0 hk6); have K6 := Lib.hid ((K3.out.trans HK.out).trans hk6); have HO6 := Lib.hid ((HO3.out.keep HK.out (fun _ _ => id)).keep hk6 (fun _ _ => id)); obtain ⟨a6, c6, rfl, -⟩ := hO6.slice; clear hO6 hk6))
      have hpB := HT6.out.bd.1
      have hs6 := K6.out.size
      have hag2 := HAG.out
      go_loopw [14] (fun i wr => ∃ k : Nat, k ≤ D.length ∧ i = .int .i64 k ∧ ∃ v E, RepM wr w.heap.size p v 9 E ∧ E.Perm (D.drop k ++ R) ∧ Keep (fun z => z = p) w6 wr) (fun i _ => D.length - (intOf i).toNat)
      case atStart => exact ⟨0, by omega, rfl, v, _, HT6.out.rm, by rw [List.drop_zero]; exact HLP.out, Keep.refl _ _⟩
      case round =>
        obtain ⟨i, hi, rfl, v, E, hRM, hE, hkeep⟩ := hrel
        have HM := Lib.hid hRM
        have HE := Lib.hid hE
        have HK7 := Lib.hid hkeep
        have hs7 := hkeep.size
        have hEl := hE.length_eq
        rw [List.length_append, List.length_drop] at hEl
        clear hRM hE hkeep
        have HPW : Hid (E.Pairwise dj) := (HE.out.pairwise_iff dj_symm).mpr (HDR.out.sublist ((List.drop_sublist i D).append_right R))
        have HFE : Hid (∀ y, y ∈ E → fine y) := fun y hy => HFI.out y (HLP.out.mem_iff.mpr (by
          rcases List.mem_append.mp (HE.out.mem_iff.mp hy) with h | h
          · exact List.mem_append_left _ (List.mem_of_mem_drop h)
          · exact List.mem_append_right _ h))
        have HOi := Lib.hid (HO6.out.keep HK7.out (fun z hz e => by have := (HO3.out.lt z hz).1; have := hp3.out; omega))
        by_cases hlt : i < D.length
        · obtain ⟨x, hx⟩ : ∃ x, D[i] = x := ⟨_, rfl⟩
          have HE' : Hid (E.Perm (x :: (D.drop (i + 1) ++ R))) := by
            have := HE.out
            rw [List.drop_eq_getElem_cons hlt, hx, List.cons_append] at this
            exact this
          obtain ⟨t1, t2, t3, t4⟩ := turn_law HE'.out HPW.out HFE.out (by omega)
          have T1 := Lib.hid t1
          have T2 := Lib.hid t2
          have T3 := Lib.hid t3
          have T4 := Lib.hid t4
          clear t1 t2 t3 t4
          obtain ⟨g, hg⟩ := HAG.out (by intro e; rw [List.map_eq_nil_iff] at e; rw [e] at hlt; simp at hlt)
          subst hg
          have c0 := in_cell (i := i) HOi.out (by rw [hml]; exact hlt)
          simp only [List.getElem_map, hx] at c0
          have hgp : g ≠ p := by have := (HO3.out.lt g rfl).1; have := hp3.out; omega
          clear hx
          go_wp2_with (first | (go_at_call 17; go_loud (refine (begin_any w.heap.size p v8 9 _ x.t x.f _ (by omega) HM8.out).mono ?_; rw [T2.out]; rintro e w9 ⟨v9, rfl, hM9, hk9, -⟩; have HM9 := Lib.hid hM9; have hs9 := hk9.size; have HK9 := Lib.hid (HK8.out.trans hk9); clear hM9 hk9)) | (go_at_call 20; have HH := HM9; clear HH; go_loud (refine (abort_any w.heap.size p v9 9 _ x.t _ (by omega) HM9.out).mono ?_; rw [T3.out]; rintro e w10 ⟨v10, rfl, hM10, hk10, -⟩; have HM10 := Lib.hid hM10; have HK10 := Lib.hid (HK9.out.trans hk10); clear hM10 hk10)) | (go_at_call 20; go_loud (refine (abort_any w.heap.size p v 9 E x.f _ (by omega) HM.out).mono ?_; rw [T1.out]; rintro e w8 ⟨v8, rfl, hM8, hk8, -⟩; have HM8 := Lib.hid hM8; have hs8 := hk8.size; have HK8 := Lib.hid (HK7.out.trans hk8); have c0' := (hk8.cell (block_lt_cell c0) hgp).trans c0; clear hM8 hk8)))
          go_roundw
          case rel => exact ⟨i + 1, by omega, by go_num, v10, _, HM10.out, T4.out, HK10.out⟩
          case measure => simp [intOf]; omega
        · obtain rfl : i = D.length := by omega
          have HER : Hid (E.Perm R) := by have := HE.out; rw [List.drop_length, List.nil_append] at this; exact this
          have hEn : ((E.length : Int) == ((rows T S G).length : Int) - (D.length : Int)) = true := by simp; omega
          go_wp2_with (first | (go_at_call 26; go_loud (refine (old_any w.heap.size p v 9 E age _ HM.out (by omega) (fun x hx => by have := (HFE.out x hx).2.2.2; omega)).mono ?_; rintro e w8 ⟨v8, D8, rfl, hD8, -, hO8, hk8⟩; rw [rest_none (by rw [HRR.out]; exact HER.out)] at hD8; rw [List.Perm.eq_nil hD8] at hO8; obtain ⟨a8, c8, rfl, -⟩ := hO8.slice; have HM8 := Lib.hid (HM.out.keep hk8 id (fun _ _ => id)); have HK8 := Lib.hid hk8; clear hD8 hO8 hk8)) | (go_at_call 14; go_loud (refine (all_any _ p v 9 _ _ HM8.out).mono ?_; rintro e w9 ⟨v9, rfl, hO9, hk9⟩; have HK9 := Lib.hid hk9; obtain ⟨a9, c9, rfl, -⟩ := hO9.slice; clear hO9 hk9)))
          go_ret
          exact ⟨ret_bool (by rw [beq_iff_eq]; omega), (Keep.fresh (B := w.heap.size) ((K6.out.mono (T := fun z => w.heap.size ≤ z) (fun _ _ h => h.elim)).trans ((HK7.out.mono (T := fun z => w.heap.size ≤ z) (fun z _ e => by rw [e]; exact hpB)).trans ((HK8.out.mono (T := fun z => w.heap.size ≤ z) (fun _ _ h => h.elim)).trans (HK9.out.mono (T := fun z => w.heap.size ≤ z) (fun _ _ h => h.elim))))) (fun _ h => h) (Nat.le_refl _)).below⟩

end Go.Proofs.Ytnlalihapmlceaa
