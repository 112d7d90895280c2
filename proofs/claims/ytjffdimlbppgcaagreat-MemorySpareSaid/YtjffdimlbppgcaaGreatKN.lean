/- Kinds: the reference's find. -/
import Derived.Test.YtjffdimlbppgcaaGreatKJ
set_option linter.unusedVariables false
set_option linter.unusedSimpArgs false
namespace Go.Proofs.YtjffdimlbppgcaaGreat
open Go.RowKit Go.Own

/- Part KL: Kinds: the reference's object: Of, Set, FreeOf. -/
/-- The reference's object: X, its frames x with their row g, its row of kinds r. -/
structure RK (w : World) (X x g r cap n : Nat) (F : Nat → Bool) (M : Nat → Int) : Prop where
  hX : w.heap[X]? = some (.cells #[.pointer (some ⟨x, 0, none⟩), .slice (some ⟨r, 0, none⟩) (sec n) cap] 69 (0, 0))
  rx : RX w x g n F
  mt : MetI w r (sec n) M
  n8 : 8 ≤ n ∧ n ≤ 1024
theorem RK.keep {w w' : World} {X x g r cap n : Nat} {F : Nat → Bool} {M : Nat → Int} {S : Nat → Prop} (h : RK w X x g r cap n F M) (K : Keep S w w') (hS : ∀ z, S z → z ≠ X ∧ z ≠ x ∧ z ≠ g ∧ z ≠ r) : RK w' X x g r cap n F M :=
  ⟨(K.block X (block_lt h.hX) (fun e => (hS _ e).1 rfl)).trans h.hX, h.rx.keep K (fun e => (hS _ e).2.1 rfl) (fun e => (hS _ e).2.2.1 rfl), h.mt.keep K (fun e => (hS _ e).2.2.2 rfl), h.n8⟩
theorem RK.keep0 {w w' : World} {X x g r cap n : Nat} {F : Nat → Bool} {M : Nat → Int} (h : RK w X x g r cap n F M) (K : Keep (fun _ => False) w w') : RK w' X x g r cap n F M := h.keep K fun _ h => h.elim
theorem RK.setM {w : World} {X x g r cap n i : Nat} {F : Nat → Bool} {M : Nat → Int} (y : Int) (h : RK w X x g r cap n F M) : RK (w.setCell ⟨r, i, none⟩ (.int .i64 y)) X x g r cap n F (setM M i y) ∧ Keep (fun z => z = r) w (w.setCell ⟨r, i, none⟩ (.int .i64 y)) := by
  have K : Keep (fun z => z = r) w (w.setCell ⟨r, i, none⟩ (.int .i64 y)) := (Keep.refl (fun z => z = r) w).setCell (p := ⟨r, i, none⟩) (fun _ => rfl) _
  obtain ⟨c2, h2⟩ := h.mt.typ
  obtain ⟨C, hg, _⟩ := h.rx.2
  refine ⟨⟨(K.block X (block_lt h.hX) (typ_ne h.hX h2 (by decide))).trans h.hX, h.rx.keep K (typ_ne h.rx.1 h2 (by decide)) (typ_ne hg h2 (by decide)), h.mt.set y, h.n8⟩, K⟩
theorem RK.congr {w : World} {X x g r cap n : Nat} {F : Nat → Bool} {M M' : Nat → Int} (h : RK w X x g r cap n F M) (e : ∀ i, i < sec n → M i = M' i) : RK w X x g r cap n F M' := ⟨h.hX, h.rx, h.mt.congr e, h.n8⟩
section
variable {w : World} {X x g r cap n : Nat} {F : Nat → Bool} {M : Nat → Int}
theorem div8 (f n : Nat) (hf : f < n) (hn : n ≤ 1024) : ∃ s : Nat, f / 8 = s ∧ Int.tdiv (f : Int) 8 = (s : Int) ∧ (f : Int) / 8 = (s : Int) ∧ wrap64 (s : Int) = (s : Int) ∧ IntKind.i64.wrap (s : Int) = (s : Int) ∧ s < sec n ∧ (0 : Int) ≤ s ∧ (s : Int) < sec n :=
  ⟨f / 8, rfl, (Int.ofNat_tdiv f 8).symm, (Int.natCast_ediv f 8).symm, IntWalk.wrap64_in _ (by omega), IntWalk.i64_in _ (by omega), sec_lt hf, by omega, by have := sec_lt hf; omega⟩
theorem of_in {f : Nat} (h : RK w X x g r cap n F M) (hf : f < n) : Calls Tryz.prog 29 #[.pointer (some ⟨X, 0, none⟩), .int .i64 (f : Int)] w fun e w' => e = .returned (.int .i64 (M (f / 8))) ∧ w' = w := by
  obtain ⟨z0, z1⟩ := cell2b h.hX
  obtain ⟨s, e0, e1, e2, e3, e4, e5, e6, e7⟩ := div8 f n hf h.n8.2
  have hc := h.mt.cell e5
  rw [e0]
  clear h e0
  go_enter Tryz.func29, Tryz.ntmps29
  go_wp2
  go_ret
  exact ⟨rfl, rfl⟩
theorem rset_range (f y : Int) (h : RK w X x g r cap n F M) (hf : f < 0 ∨ (sec n : Int) ≤ f) : Calls Tryz.prog 52 #[.pointer (some ⟨X, 0, none⟩), .int .i64 f, .int .i64 y] w fun e w' => e = .returned (.int .i64 3) ∧ w' = w := by
  obtain ⟨z0, z1⟩ := cell2b h.hX
  clear h
  by_cases h0 : f < 0
  · have t0 : decide (f < 0) = true := decide_eq_true h0
    clear hf
    go_enter Tryz.func52, Tryz.ntmps52
    go_wp2
    go_ret
    exact ⟨rfl, rfl⟩
  · have t0 : decide (f < 0) = false := decide_eq_false h0
    have t1 : decide ((sec n : Int) ≤ f) = true := by simp; omega
    clear hf
    go_enter Tryz.func52, Tryz.ntmps52
    go_wp2
    go_ret
    exact ⟨rfl, rfl⟩
theorem rset_arg (f y : Int) (h : RK w X x g r cap n F M) (hf : 0 ≤ f ∧ f < (sec n : Int)) (hx : y < 0 ∨ 3 < y) : Calls Tryz.prog 52 #[.pointer (some ⟨X, 0, none⟩), .int .i64 f, .int .i64 y] w fun e w' => e = .returned (.int .i64 2) ∧ w' = w := by
  obtain ⟨z0, z1⟩ := cell2b h.hX
  clear h
  have t0 : decide (f < 0) = false := by simp; omega
  have t1 : decide ((sec n : Int) ≤ f) = false := by simp; omega
  clear hf
  by_cases h0 : y < 0
  · have t2 : decide (y < 0) = true := decide_eq_true h0
    clear hx
    go_enter Tryz.func52, Tryz.ntmps52
    go_wp2
    go_ret
    exact ⟨rfl, rfl⟩
  · have t2 : decide (y < 0) = false := decide_eq_false h0
    have t3 : decide (3 < y) = true := by simp; omega
    clear hx
    go_enter Tryz.func52, Tryz.ntmps52
    go_wp2
    go_ret
    exact ⟨rfl, rfl⟩
theorem rset_ok (i : Nat) (y : Int) (h : RK w X x g r cap n F M) (hi : i < sec n) (hx : 0 ≤ y ∧ y ≤ 3) : Calls Tryz.prog 52 #[.pointer (some ⟨X, 0, none⟩), .int .i64 (i : Int), .int .i64 y] w fun e w' => e = .returned (.int .i64 0) ∧ RK w' X x g r cap n F (setM M i y) ∧ Keep (fun z => z = r) w w' := by
  obtain ⟨z0, z1⟩ := cell2b h.hX
  have HK := Lib.hid (h.setM (i := i) y)
  have hc := h.mt.cell hi
  have hfz := h.mt.frozen i
  clear h
  have t0 : decide ((i : Int) < 0) = false := by simp
  have t1 : decide ((sec n : Int) ≤ (i : Int)) = false := by simp; omega
  have t1' : decide (sec n ≤ i) = false := by simp; omega
  have t2 : decide (y < 0) = false := by simp; omega
  have t3 : decide (3 < y) = false := by simp; omega
  have i0 : (0 : Int) ≤ i := by omega
  have i1 : (i : Int) < (sec n : Int) := by omega
  clear hx
  go_enter Tryz.func52, Tryz.ntmps52
  go_wp2
  go_ret
  exact ⟨rfl, HK.out⟩
set_option maxHeartbeats 1000000 in
theorem rfreeOf (y : Int) (h : RK w X x g r cap n F M) : Calls Tryz.prog 63 #[.pointer (some ⟨X, 0, none⟩), .int .i64 y] w fun e w' => e = .returned (.int .i64 (cntK F M y n : Nat)) ∧ w' = w := by
  have HO := Lib.hid h
  have hn1 := h.n8.2
  obtain ⟨z0, z1⟩ := cell2b h.hX
  have zx := h.rx.c0
  clear h
  go_enter Tryz.func63, Tryz.ntmps63
  go_wp2
  go_loopw [5, 6] (fun c i wr => ∃ j : Nat, j ≤ n ∧ i = .int .i64 (j : Int) ∧ (∃ s : Nat, s = cntK F M y j ∧ c = .int .i64 (s : Int)) ∧ wr = w) (fun _ i _ => n - (intOf i).toNat)
  case atStart => exact ⟨0, by omega, rfl, ⟨0, rfl, rfl⟩, rfl⟩
  case round =>
    obtain ⟨j, hj, rfl, ⟨s, hs, rfl⟩, rfl⟩ := hrel
    by_cases hjn : j < n
    · have hsl : s ≤ j := by rw [hs]; exact cntK_le F M y j
      have hsc := cntK_succ F M y j
      rw [← hs] at hsc
      have s1 : (s : Int) < 1024 := by omega
      have s0 : (0 : Int) ≤ s := Int.natCast_nonneg s
      have j0 : (0 : Int) ≤ j := Int.natCast_nonneg j
      have j1 : (j : Int) < (n : Int) := by omega
      have j2 : (j : Int) < 1024 := by omega
      have cm := HO.out.rx.2.cell hjn
      have HKI := Lib.hid (of_in HO.out hjn)
      cases hF : F j with
      | false =>
        rw [hF] at cm hsc
        rw [Bool.false_and] at hsc
        have HS := Lib.hid hsc
        clear hs hsc hF
        go_wp2
        go_roundw
        case rel => exact ⟨j + 1, by omega, by go_num, ⟨s, by rw [HS.out]; simp, rfl⟩, trivial⟩
        case measure => simp [intOf]; omega
      | true =>
        rw [hF] at cm hsc
        rw [Bool.true_and] at hsc
        by_cases hm : M (j / 8) = y
        · have t0 : (M (j / 8) == y) = true := by simp [hm]
          rw [decide_eq_true hm] at hsc
          have HS := Lib.hid hsc
          clear hs hsc hF hm
          go_wp2_with (go_at_call 29; refine HKI.out.mono ?_; rintro e w1 ⟨rfl, rfl⟩)
          go_roundw
          case rel => exact ⟨j + 1, by omega, by go_num, ⟨s + 1, by rw [HS.out]; simp, by go_num⟩, trivial⟩
          case measure => simp [intOf]; omega
        · have t0 : (M (j / 8) == y) = false := by simp [hm]
          rw [decide_eq_false hm] at hsc
          have HS := Lib.hid hsc
          clear hs hsc hF hm
          go_wp2_with (go_at_call 29; refine HKI.out.mono ?_; rintro e w1 ⟨rfl, rfl⟩)
          go_roundw
          case rel => exact ⟨j + 1, by omega, by go_num, ⟨s, by rw [HS.out]; simp, rfl⟩, trivial⟩
          case measure => simp [intOf]; omega
    · have j1 : ¬ (j : Int) < (n : Int) := by omega
      obtain rfl : j = n := by omega
      have HS := Lib.hid hs
      clear hs
      go_wp2
      go_ret
      exact ⟨ret_int (by rw [HS.out]), rfl⟩
end

/- Part KM: Kinds: the reference's New. -/
theorem rknew_bad (n : Int) (h : n < 8 ∨ 1024 < n) (w : World) : Calls Tryz.prog 43 #[.int .i64 n] w fun e w' => e = .returned (.tuple #[.pointer none, .int .i64 2]) ∧ Keep (fun _ => False) w w' := by
  have HB := Lib.hid h
  clear h
  go_enter Tryz.func43, Tryz.ntmps43
  go_wp2_with fail
  refine (rnew_bad n HB.out _).mono ?_
  rintro e w1 ⟨rfl, rfl⟩
  go_wp2
  go_ret2
  exact ⟨rfl, Keep.refl _ _⟩
/-- A row of ones. -/
theorem ones_met {w : World} {C m : Nat} {v : Value} (h : OwnL inE w C 3 v (List.replicate m 1)) (hm : 0 < m) : ∃ r cap, v = .slice (some ⟨r, 0, none⟩) m cap ∧ C ≤ r ∧ MetI w r m (fun _ => 1) := by
  obtain ⟨r, cap, rfl, h1, h2, h3⟩ := h.form (by intro e; have := congrArg List.length e; simp at this; omega)
  rw [List.length_replicate] at h ⊢
  obtain ⟨c, hc⟩ := own_typ h (x := r) rfl
  have hcell : ∀ i, i < m → c[i]? = some (.int .i64 1) := fun i hi => by
    have h4 := OwnL.cell (j := 0) h (i := i) (by simpa using hi) (by decide)
    rw [cell_block hc] at h4
    simpa [inE] using h4
  refine ⟨r, cap, rfl, h1, c, hc, ?_, hcell⟩
  have h5 := hcell (m - 1) (by omega)
  rw [Array.getElem?_eq_some_iff] at h5
  obtain ⟨h6, _⟩ := h5
  omega

theorem ones_conv {w : World} {C j : Nat} {v : Value} (h : w.ownsRow C 3 1 v ((List.replicate j (1 : Int)).length + 1) (inE.cs (List.replicate j 1) ++ [.int .i64 1])) : OwnL inE w C 3 v (List.replicate (j + 1) 1) := by
  unfold OwnL
  rw [List.replicate_succ', List.length_append, inE.cs_append, inE.cs_one]
  exact h
theorem rk_close {w wr w3 : World} {X x g n : Nat} {v v' : Value} {F : Nat → Bool} {L L' : List Int} (hb : wr.heap[X]? = some (.cells #[.pointer (some ⟨x, 0, none⟩), v] 69 (0, 0))) (hv : OwnL inE wr w.heap.size 3 v L) (hr : RX wr x g n F) (hk : Keep (fun _ => False) w wr) (hX : w.heap.size ≤ X)
    (K : Keep (fun z => v.ownBlock = some z) wr w3) (ho : OwnL inE w3 w.heap.size 3 v' L') (hn : ∀ z, v'.ownBlock = some z → v.ownBlock = some z ∨ wr.heap.size ≤ z) :
    (w3.setCell ⟨X, 1, none⟩ v').heap[X]? = some (.cells #[.pointer (some ⟨x, 0, none⟩), v'] 69 (0, 0)) ∧ OwnL inE (w3.setCell ⟨X, 1, none⟩ v') w.heap.size 3 v' L' ∧ RX (w3.setCell ⟨X, 1, none⟩ v') x g n F ∧ Keep (fun _ => False) w (w3.setCell ⟨X, 1, none⟩ v') := by
  have hne : ∀ b e c, wr.heap[b]? = some (.cells c e (0, 0)) → e ≠ 3 → ¬ v.ownBlock = some b := fun b e c hb he h => by
    obtain ⟨c2, h2⟩ := own_typ hv h
    exact typ_ne hb h2 he rfl
  have KS : Keep (fun z => z = X) w3 (w3.setCell ⟨X, 1, none⟩ v') := (Keep.refl (fun z => z = X) w3).setCell (p := ⟨X, 1, none⟩) (fun _ => rfl) v'
  have KA : Keep (fun z => z = X ∨ v.ownBlock = some z) wr (w3.setCell ⟨X, 1, none⟩ v') := (K.mono fun _ _ h => .inr h).setCell (fun _ => .inl rfl) _
  obtain ⟨C, hg, _⟩ := hr.2
  refine ⟨?_, ho.keep KS ?_, hr.keep KA ?_ ?_, keep_fresh hk KA ?_⟩
  · rw [heap_setCell_eq ((K.block X (block_lt hb) (hne _ _ _ hb (by decide))).trans hb)]; simp
  · intro z hz e
    subst e
    rcases hn z hz with h | h
    · exact hne _ _ _ hb (by decide) h
    · have := block_lt hb; omega
  · rintro (e | e)
    · exact typ_ne hr.1 hb (by decide) e
    · exact hne _ _ _ hr.1 (by decide) e
  · rintro (e | e)
    · exact typ_ne hg hb (by decide) e
    · exact hne _ _ _ hg (by decide) e
  · rintro z (rfl | e)
    · exact hX
    · exact (hv.lt z e).1

set_option maxRecDepth 100000 in
set_option maxHeartbeats 2000000 in
theorem rknew_any (n : Nat) (h0 : 8 ≤ n) (h1 : n ≤ 1024) (w : World) : Calls Tryz.prog 43 #[.int .i64 (n : Int)] w fun e w' => ∃ X x g r cap, e = .returned (.tuple #[.pointer (some ⟨X, 0, none⟩), .int .i64 0]) ∧ RK w' X x g r cap n (upTo n) (fun _ => 1) ∧ w.heap.size ≤ X ∧ w.heap.size ≤ x ∧ w.heap.size ≤ g ∧ w.heap.size ≤ r ∧ Keep (fun _ => False) w w' := by
  have HM := Lib.hid (And.intro h0 h1)
  clear h0 h1
  go_enter Tryz.func43, Tryz.ntmps43
  go_wp2_with fail
  refine (rnew_any n HM.out.1 HM.out.2 _).mono ?_
  rintro e w1 ⟨x, g, rfl, hr, hx, hg, hk1⟩
  have HX := Lib.hid (And.intro hx hg)
  have HK1 : Hid (Keep (fun _ => False) w (w1.alloc (.cells #[.pointer (some ⟨x, 0, none⟩), .slice none 0 0] 69))) := hk1.alloc _
  have HR1 := Lib.hid (hr.keep (S := fun _ => False) ((Keep.refl _ w1).alloc (.cells #[.pointer (some ⟨x, 0, none⟩), .slice none 0 0] 69)) id id)
  have HBX : Hid ((w1.alloc (.cells #[.pointer (some ⟨x, 0, none⟩), .slice none 0 0] 69)).heap[w1.heap.size]? = some (.cells #[.pointer (some ⟨x, 0, none⟩), .slice none 0 0] 69 (0, 0))) := heap_alloc_new w1 _
  have HSX : Hid (w.heap.size ≤ w1.heap.size) := hk1.size
  clear hr hx hg hk1
  go_wp2
  generalize w1.alloc (.cells #[.pointer (some ⟨x, 0, none⟩), .slice none 0 0] 69) = w2 at HK1 HR1 HBX ⊢
  obtain ⟨X, hX⟩ : ∃ X, w1.heap.size = X := ⟨_, rfl⟩
  rw [hX] at HBX HSX ⊢
  clear hX
  go_loopw [7] (fun i wr => ∃ (t j : Nat) (v : Value), i = .int .i64 (t : Int) ∧ t = 8 * j ∧ j ≤ sec n ∧ wr.heap[X]? = some (.cells #[.pointer (some ⟨x, 0, none⟩), v] 69 (0, 0)) ∧ OwnL inE wr w.heap.size 3 v (List.replicate j 1) ∧ RX wr x g n (upTo n) ∧ Keep (fun _ => False) w wr) (fun i _ => 3000 - (intOf i).toNat)
  case atStart => exact ⟨0, 0, .slice none 0 0, rfl, rfl, Nat.zero_le _, HBX.out, OwnL.nil _ _ _, HR1.out, HK1.out⟩
  case round =>
    obtain ⟨t, j, v, rfl, ht, hj, hb, hv, hr, hk⟩ := hrel
    have HB := Lib.hid hb
    have HV := Lib.hid hv
    have HR := Lib.hid hr
    have HK := Lib.hid hk
    have HT := Lib.hid ht
    have hn1 := HM.out.2
    clear hb hv hr hk HBX HR1 HK1
    by_cases hlt : t < n
    · have t1 : (t : Int) < (n : Int) := by omega
      have t2 : (t : Int) < 2000 := by omega
      have HJ : Hid (j < sec n) := by show j < (n + 7) / 8; omega
      have hj1 : j ≤ 1000 := by omega
      obtain ⟨z0, z1⟩ := cell2b HB.out
      have fz : wr.frozen? ⟨X, 1, none⟩ = false := frozen_block HB.out
      have hnb : Hid (¬ v.ownBlock = some X) := fun e => by
        obtain ⟨c, hc⟩ := own_typ HV.out e
        exact typ_ne HB.out hc (by decide) rfl
      clear ht
      have HJ1 : Hid ((List.replicate j (1 : Int)).length ≤ 1000) := by show _ ≤ _; rw [List.length_replicate]; exact hj1
      have HCW : Hid (w.heap.size ≤ (wr.alloc (.cells #[.int .i64 1] 3)).heap.size) := Nat.le_trans HK.out.size (by simp)
      have hX2 := block_lt HB.out
      go_wp2_with (at_builtin; go_loud (refine wpl_appF et60 rfl (.tmp 28) (.tmp 29) rfl w.heap.size v (List.replicate j (1 : Int)).length (inE.cs (List.replicate j 1)) (by rfl) (HV.out.keep (S := fun _ => False) ((Keep.refl _ wr).alloc (.cells #[.int .i64 1] 3)) (fun _ _ => id)) ⟨wr.heap.size, 0, none⟩ 1 1 [.int .i64 1] (by rfl) rfl (new_cells (heap_alloc_new wr (.cells #[.int .i64 1] 3))) (by simp [Value.oneCell']) (by have := HJ1.out; unfold maxLen; omega) (by have := HJ1.out; omega) HCW.out ?_; intro v1 w3 ho1 hg1 hv1; obtain ⟨a1, l1, c1, rfl⟩ := own_slice ho1; have HK2 : Hid (Keep (fun z => v.ownBlock = some z) wr w3) := Keep.grown ((Keep.refl _ wr).alloc (.cells #[.int .i64 1] 3)) hg1 (fun x h1 h2 => h1); have HO1 : Hid (OwnL inE w3 w.heap.size 3 (.slice a1 l1 c1) (List.replicate (j + 1) 1)) := ones_conv ho1; have HV1 : Hid (∀ x, (Value.slice a1 l1 c1).ownBlock = some x → v.ownBlock = some x ∨ wr.heap.size ≤ x) := fun x hx => (hv1 x hx).imp id (fun h => by simp at h; omega); have e1 : w3.cell? ⟨X, 1, none⟩ = some v := (HK2.out.cell hX2 hnb.out).trans z1; have fz1 : w3.frozen? ⟨X, 1, none⟩ = false := (HK2.out.frozen hX2 hnb.out).trans fz; clear ho1 hg1 hv1 z0 z1 fz))
      have HCL := Lib.hid (rk_close HB.out HV.out HR.out HK.out HSX.out HK2.out HO1.out HV1.out)
      go_roundw
      case rel => exact ⟨t + 8, j + 1, _, by go_num, by have := HT.out; omega, HJ.out, HCL.out.1, HCL.out.2.1, HCL.out.2.2.1, HCL.out.2.2.2⟩
      case measure => simp [intOf]; omega
    · have t1 : ¬ (t : Int) < (n : Int) := by omega
      have hjs : j = sec n := by
        show j = (n + 7) / 8
        have : (n + 7) / 8 = sec n := rfl
        omega
      subst hjs
      obtain ⟨r, cap, rfl, hr1, hr2⟩ := ones_met HV.out (by show 0 < (n + 7) / 8; have := HM.out.1; omega)
      have HRK : Hid (RK wr X x g r cap n (upTo n) (fun _ => 1)) := ⟨HB.out, HR.out, hr2, HM.out⟩
      clear hr2 ht
      go_wp2
      go_ret2
      exact ⟨X, rfl, x, g, r, ⟨cap, HRK.out⟩, HSX.out, HX.out.1, HX.out.2, hr1, HK.out⟩

/- Part KN: Kinds: the reference's find. -/
def fbm (z : Option Bk) : Bk := z.getD ⟨0, -1⟩
def rst1 (M : Nat → Int) (x o : Int) (g : Bool) (b : Option Bk) (y : Bk) : Option Bk := if o ≤ y.o then bst1 M x g b y else b
theorem rst_is (M : Nat → Int) (x o : Int) (g : Bool) (L : List Bk) : L.foldl (rst1 M x o g) none = bst M x g (flO o L) := (bst_filter M x o g L none).symm
theorem rst_take {M : Nat → Int} {x o : Int} {g : Bool} {L : List Bk} {j : Nat} (hj : j < L.length) : (L.take (j + 1)).foldl (rst1 M x o g) none = rst1 M x o g ((L.take j).foldl (rst1 M x o g) none) L[j] := by
  rw [List.take_succ_eq_append_getElem hj, List.foldl_append]; rfl
theorem rst1_no {M : Nat → Int} {x o : Int} {g : Bool} {z : Option Bk} {a q : Nat} (h : ¬ o ≤ (q : Int)) : rst1 M x o g z ⟨(a : Int), (q : Int)⟩ = z := by
  unfold rst1; rw [if_neg h]
theorem rst1_yes {M : Nat → Int} {x o : Int} {g : Bool} {z : Option Bk} {a q : Nat} (h : o ≤ (q : Int)) : rst1 M x o g z ⟨(a : Int), (q : Int)⟩ = bst1 M x g z ⟨(a : Int), (q : Int)⟩ := by
  unfold rst1; rw [if_pos h]
/-- The best so far is one of the row. -/
theorem rst_pos {M : Nat → Int} {x o : Int} {g : Bool} {L : List Bk} {n : Nat} (hL : ∀ y, y ∈ L → okP n y) {u : Bk} {j : Nat} (h : some u = (L.take j).foldl (rst1 M x o g) none) : 0 ≤ u.o := by
  rw [rst_is] at h
  have h1 := (bst_in h.symm).1
  unfold flO at h1
  rw [List.mem_filter] at h1
  obtain ⟨a, q, rfl, _⟩ := hL _ (List.mem_of_mem_take h1.1)
  simp
def FindC (M : Nat → Int) (x o : Int) (g : Bool) (L : List Bk) (w : World) (e : Ending) (w' : World) : Prop :=
  e = .returned (.agg #[.int .i64 (fbm (bst M x g (flO o L))).f, .int .i64 (fbm (bst M x g (flO o L))).o]) ∧ Keep (fun _ => False) w w'
def FiJ (M : Nat → Int) (x o : Int) (g : Bool) (L : List Bk) (w wr : World) (n10 n11 j : Nat) : Prop :=
  ∃ z : Option Bk, z = (L.take j).foldl (rst1 M x o g) none ∧ wr.heap[n11]? = some (.cells #[.int .i64 (fbm z).f, .int .i64 (fbm z).o] 96 (0, 0)) ∧ wr.heap[n10]? = some (.cells #[.int .i64 0, .int .i64 0] 96 (0, 0)) ∧ Keep (fun _ => False) w wr
theorem FiJ.up {M : Nat → Int} {x o : Int} {g : Bool} {L : List Bk} {w wr : World} {n10 n11 j : Nat} {z y : Option Bk} (hz : y = (L.take (j + 1)).foldl (rst1 M x o g) none) (h11 : wr.heap[n11]? = some (.cells #[.int .i64 (fbm z).f, .int .i64 (fbm z).o] 96 (0, 0))) (h10 : wr.heap[n10]? = some (.cells #[.int .i64 0, .int .i64 0] 96 (0, 0))) (hk : Keep (fun _ => False) w wr)
    (hn : n10 ≠ n11) (hw : w.heap.size ≤ n11) : FiJ M x o g L w ((wr.setCell ⟨n11, 0, none⟩ (.int .i64 (fbm y).f)).setCell ⟨n11, 1, none⟩ (.int .i64 (fbm y).o)) n10 n11 (j + 1) :=
  ⟨y, hz, set2 h11, (set2_ne hn).trans h10, (hk.setNew hw _).setNew hw _⟩

set_option maxRecDepth 100000 in
set_option maxHeartbeats 8000000 in
theorem find_any {w : World} {C X x' g' r cap n : Nat} {F : Nat → Bool} {M : Nat → Int} (v : Value) (L : List Bk) (o x : Int) (g : Bool) (h : RK w X x' g' r cap n F M) (hv : OwnL bkE w C 96 v L) (hL : ∀ y, y ∈ L → okP n y) (hl : L.length ≤ 1000000) :
    Calls Tryz.prog 92 #[.pointer (some ⟨X, 0, none⟩), v, .int .i64 o, .int .i64 x, .bool g] w (FindC M x o g L w) := by
  obtain ⟨av, cv, rfl, hag⟩ := hv.slice
  have HV := Lib.hid hv
  have HO := Lib.hid h
  have HL := Lib.hid hL
  have HAG := Lib.hid hag
  have h10 := heap_alloc_new w (.cells #[.int .i64 0, .int .i64 0] 96)
  have h11 := heap_alloc_new (w.alloc (.cells #[.int .i64 0, .int .i64 0] 96)) (.cells #[.int .i64 0, .int .i64 (-1)] 96)
  have h10' : ((w.alloc (.cells #[.int .i64 0, .int .i64 0] 96)).alloc (.cells #[.int .i64 0, .int .i64 (-1)] 96)).heap[w.heap.size]? = some (.cells #[.int .i64 0, .int .i64 0] 96 (0, 0)) := by
    rw [heap_alloc_at, if_neg (by simp)]; exact h10
  have HI0 : Hid (FiJ M x o g L w ((w.alloc (.cells #[.int .i64 0, .int .i64 0] 96)).alloc (.cells #[.int .i64 0, .int .i64 (-1)] 96)) w.heap.size (w.heap.size + 1) 0) := ⟨none, rfl, by rw [World.size_alloc] at h11; exact h11, h10', ((Keep.refl _ _).alloc _).alloc _⟩
  clear hv h hL hag h10 h11 h10'
  go_enter Tryz.func92, Tryz.ntmps92
  go_wp2
  generalize (w.alloc (.cells #[.int .i64 0, .int .i64 0] 96)).alloc (.cells #[.int .i64 0, .int .i64 (-1)] 96) = w1 at HI0 ⊢
  obtain ⟨n10, hn10⟩ : ∃ n10, w.heap.size = n10 := ⟨_, rfl⟩
  rw [hn10] at HI0
  try rw [hn10]
  obtain ⟨n11, hn11⟩ : ∃ n11, n10 + 1 = n11 := ⟨_, rfl⟩
  rw [hn11] at HI0
  try rw [hn11]
  have HNE : Hid (n10 ≠ n11) := by show n10 ≠ n11; omega
  have HNW : Hid (w.heap.size ≤ n11) := by show w.heap.size ≤ n11; omega
  have HNW0 : Hid (w.heap.size ≤ n10) := by show w.heap.size ≤ n10; omega
  clear hn10 hn11
  go_loopw [12] (fun i wr => ∃ j : Nat, j ≤ L.length ∧ i = .int .i64 (j : Int) ∧ FiJ M x o g L w wr n10 n11 j) (fun i _ => L.length - (intOf i).toNat)
  case atStart => exact ⟨0, by omega, rfl, HI0.out⟩
  case round =>
    obtain ⟨j, hj, rfl, z, hz, hb11, hb10, hk⟩ := hrel
    have HZ := Lib.hid hz
    have H11 := Lib.hid hb11
    have H10 := Lib.hid hb10
    have HK := Lib.hid hk
    clear hz hb11 hb10 hk HI0
    by_cases hjl : j < L.length
    · obtain ⟨g0, rfl⟩ := HAG.out (by intro e; rw [e] at hjl; simp at hjl)
      obtain ⟨c0, c1⟩ := bk_cells (HV.out.keep HK.out (fun _ _ => id)) hjl
      obtain ⟨a, q, hy, han, hq8⟩ := HL.out _ (List.getElem_mem hjl)
      have hstep := rst_take (M := M) (x := x) (o := o) (g := g) hjl
      rw [← HZ.out, hy] at hstep
      rw [hy] at c0 c1
      simp only at c0 c1
      have HOF : Hid (∀ W, Keep (fun _ => False) wr W → Calls Tryz.prog 29 #[.pointer (some ⟨X, 0, none⟩), .int .i64 (a : Int)] W fun e w' => e = .returned (.int .i64 (M (a / 8))) ∧ w' = W) := fun W K => of_in (HO.out.keep0 (HK.out.trans K)) han
      have j0 : (0 : Int) ≤ j := by omega
      have j1 : (j : Int) < L.length := by omega
      have j2 : (j : Int) < 2000000 := by omega
      obtain ⟨d0, d1⟩ := cell2b H11.out
      have f0 : wr.frozen? ⟨n11, 0, none⟩ = false := frozen_block H11.out
      have f1 : wr.frozen? ⟨n11, 1, none⟩ = false := frozen_block H11.out
      clear hy
      by_cases ho : o ≤ (q : Int)
      · have t0 : decide ((q : Int) < o) = false := by simp; omega
        rw [rst1_yes ho] at hstep
        by_cases hm : M (a / 8) = x
        · have t1 : (M (a / 8) != x) = false := by simp [hm]
          cases z with
          | none =>
            rw [bst1_none hm] at hstep
            have HST := Lib.hid hstep
            simp only [fbm, Option.getD_none] at d0 d1
            clear hstep hm ho
            go_wp2_with (go_at_call 29; refine (HOF.out _ (by (repeat (first | exact Keep.refl _ _ | exact Keep.refl _ _ | refine Keep.drew ?_ | refine Keep.drewN ?_ _ | refine Keep.alloc ?_ _ | refine Keep.setNew ?_ (by omega) _)); done)).mono ?_; rintro e w2 ⟨rfl, rfl⟩)
            go_quiet (fail)
            go_wp2
            go_roundw
            case rel => exact ⟨j + 1, by omega, by go_num, FiJ.up (y := some ⟨(a : Int), (q : Int)⟩) HST.out.symm H11.out H10.out (HK.out.drewN _) HNE.out HNW.out⟩
            case measure => simp [intOf]; omega
          | some u =>
            rw [bst1_some hm] at hstep
            have hup := rst_pos HL.out HZ.out
            have t2 : decide (u.o < 0) = false := by simp; omega
            simp only [fbm, Option.getD_some] at d0 d1
            clear hup
            cases g with
            | true =>
              by_cases hc : u.o < (q : Int)
              · rw [if_pos (.inl ⟨rfl, hc⟩)] at hstep
                have t3 : decide (u.o < (q : Int)) = true := decide_eq_true hc
                have HST := Lib.hid hstep
                clear hstep hm hc ho
                go_wp2_with (go_at_call 29; refine (HOF.out _ (by (repeat (first | exact Keep.refl _ _ | exact Keep.refl _ _ | refine Keep.drew ?_ | refine Keep.drewN ?_ _ | refine Keep.alloc ?_ _ | refine Keep.setNew ?_ (by omega) _)); done)).mono ?_; rintro e w2 ⟨rfl, rfl⟩)
                go_quiet (fail)
                go_wp2
                go_roundw
                case rel => exact ⟨j + 1, by omega, by go_num, FiJ.up (y := some ⟨(a : Int), (q : Int)⟩) HST.out.symm H11.out H10.out (HK.out.drewN _) HNE.out HNW.out⟩
                case measure => simp [intOf]; omega
              · rw [if_neg (by simp; omega)] at hstep
                have t3 : decide (u.o < (q : Int)) = false := decide_eq_false hc
                have HST := Lib.hid hstep
                clear hstep hm hc ho
                go_wp2_with (go_at_call 29; refine (HOF.out _ (by (repeat (first | exact Keep.refl _ _ | exact Keep.refl _ _ | refine Keep.drew ?_ | refine Keep.drewN ?_ _ | refine Keep.alloc ?_ _ | refine Keep.setNew ?_ (by omega) _)); done)).mono ?_; rintro e w2 ⟨rfl, rfl⟩)
                go_quiet (fail)
                go_wp2
                go_roundw
                case rel => exact ⟨j + 1, by omega, by go_num, some u, HST.out.symm, H11.out, H10.out, (by (repeat (first | exact HK.out | exact Keep.refl _ _ | refine Keep.drew ?_ | refine Keep.drewN ?_ _ | refine Keep.alloc ?_ _ | refine Keep.setNew ?_ (by omega) _)); done)⟩
                case measure => simp [intOf]; omega
            | false =>
              by_cases hc : (q : Int) < u.o
              · rw [if_pos (.inr ⟨rfl, hc⟩)] at hstep
                have t3 : decide ((q : Int) < u.o) = true := decide_eq_true hc
                have HST := Lib.hid hstep
                clear hstep hm hc ho
                go_wp2_with (go_at_call 29; refine (HOF.out _ (by (repeat (first | exact Keep.refl _ _ | exact Keep.refl _ _ | refine Keep.drew ?_ | refine Keep.drewN ?_ _ | refine Keep.alloc ?_ _ | refine Keep.setNew ?_ (by omega) _)); done)).mono ?_; rintro e w2 ⟨rfl, rfl⟩)
                go_quiet (fail)
                go_wp2
                go_roundw
                case rel => exact ⟨j + 1, by omega, by go_num, FiJ.up (y := some ⟨(a : Int), (q : Int)⟩) HST.out.symm H11.out H10.out (HK.out.drewN _) HNE.out HNW.out⟩
                case measure => simp [intOf]; omega
              · rw [if_neg (by simp; omega)] at hstep
                have t3 : decide ((q : Int) < u.o) = false := decide_eq_false hc
                have HST := Lib.hid hstep
                clear hstep hm hc ho
                go_wp2_with (go_at_call 29; refine (HOF.out _ (by (repeat (first | exact Keep.refl _ _ | exact Keep.refl _ _ | refine Keep.drew ?_ | refine Keep.drewN ?_ _ | refine Keep.alloc ?_ _ | refine Keep.setNew ?_ (by omega) _)); done)).mono ?_; rintro e w2 ⟨rfl, rfl⟩)
                go_quiet (fail)
                go_wp2
                go_roundw
                case rel => exact ⟨j + 1, by omega, by go_num, some u, HST.out.symm, H11.out, H10.out, (by (repeat (first | exact HK.out | exact Keep.refl _ _ | refine Keep.drew ?_ | refine Keep.drewN ?_ _ | refine Keep.alloc ?_ _ | refine Keep.setNew ?_ (by omega) _)); done)⟩
                case measure => simp [intOf]; omega
        · have t1 : (M (a / 8) != x) = true := by simp [hm]
          rw [bst1_no hm] at hstep
          have HST := Lib.hid hstep
          clear hstep hm ho
          go_wp2_with (go_at_call 29; refine (HOF.out _ (by (repeat (first | exact Keep.refl _ _ | exact Keep.refl _ _ | refine Keep.drew ?_ | refine Keep.drewN ?_ _ | refine Keep.alloc ?_ _ | refine Keep.setNew ?_ (by omega) _)); done)).mono ?_; rintro e w2 ⟨rfl, rfl⟩)
          go_roundw
          case rel => exact ⟨j + 1, by omega, by go_num, z, HST.out.symm, H11.out, H10.out, (by (repeat (first | exact HK.out | exact Keep.refl _ _ | refine Keep.drew ?_ | refine Keep.drewN ?_ _ | refine Keep.alloc ?_ _ | refine Keep.setNew ?_ (by omega) _)); done)⟩
          case measure => simp [intOf]; omega
      · have t0 : decide ((q : Int) < o) = true := by simp; omega
        rw [rst1_no ho] at hstep
        have HST := Lib.hid hstep
        clear hstep ho
        go_wp2
        go_roundw
        case rel => exact ⟨j + 1, by omega, by go_num, z, HST.out.symm, H11.out, H10.out, (by (repeat (first | exact HK.out | exact Keep.refl _ _ | refine Keep.drew ?_ | refine Keep.drewN ?_ _ | refine Keep.alloc ?_ _ | refine Keep.setNew ?_ (by omega) _)); done)⟩
        case measure => simp [intOf]; omega
    · obtain rfl : j = L.length := by omega
      rw [List.take_length] at HZ
      obtain ⟨d0, d1⟩ := cell2b H11.out
      obtain ⟨x0, x1⟩ := cell2b H10.out
      have f0 : wr.frozen? ⟨n10, 0, none⟩ = false := frozen_block H10.out
      have f1 : wr.frozen? ⟨n10, 1, none⟩ = false := frozen_block H10.out
      go_wp2
      obtain ⟨q1, q2⟩ := cell2b (set2 (u := .int .i64 (fbm z).f) (v := .int .i64 (fbm z).o) H10.out)
      refine bodyPost_ret (v := .agg #[.int .i64 (fbm z).f, .int .i64 (fbm z).o]) (by simp [results, Tryz.results92, go_sem, q1, q2]) rfl ⟨?_, (HK.out.setNew HNW0.out _).setNew HNW0.out _⟩
      rw [← rst_is, ← HZ.out]

end Go.Proofs.YtjffdimlbppgcaaGreat
