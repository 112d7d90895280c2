/- Kinds: the reference's Take. -/
import Derived.Test.YtjffdimlbppgcaaGreatKN
set_option linter.unusedVariables false
set_option linter.unusedSimpArgs false
namespace Go.Proofs.YtjffdimlbppgcaaGreat
open Go.RowKit Go.Own

/- Part KP: Kinds: the reference's Pieces. -/
theorem bk_app1 (A : List Bk) (f o : Int) : bkE.cs A ++ [.int .i64 f, .int .i64 o] = bkE.cs (A ++ [⟨f, o⟩]) := by rw [bkE.cs_append, bkE.cs_one]; rfl
/-- What Pieces has gathered: the row v, beside the row of blocks v3. -/
def RpS (w wr : World) (v v3 : Value) (D A : List Bk) : Prop :=
  OwnL bkE wr w.heap.size 96 v A ∧ OwnL bkE wr w.heap.size 96 v3 D ∧ (∀ x, v.ownBlock = some x → ¬ v3.ownBlock = some x) ∧ Keep (fun _ => False) w wr
theorem RpS.keep0 {w wr w' : World} {v v3 : Value} {D A : List Bk} (h : RpS w wr v v3 D A) (K : Keep (fun _ => False) wr w') : RpS w w' v v3 D A :=
  ⟨h.1.keep K (fun _ _ => id), h.2.1.keep K (fun _ _ => id), h.2.2.1, h.2.2.2.trans K⟩
theorem RpS.app {w wr w' : World} {v v' v3 : Value} {D A A' : List Bk} (h : RpS w wr v v3 D A) (K : Keep (fun z => v.ownBlock = some z) wr w') (ho : OwnL bkE w' w.heap.size 96 v' A') (hv : ∀ x, v'.ownBlock = some x → v.ownBlock = some x ∨ wr.heap.size ≤ x) : RpS w w' v' v3 D A' :=
  ⟨ho, h.2.1.keep K (fun x hx hs => h.2.2.1 x hs hx), fun x hx h3 => by
    rcases hv x hx with h1 | h1
    · exact h.2.2.1 x h1 h3
    · have := (h.2.1.lt x h3).2; omega, keep_fresh h.2.2.2 K (fun z hz => (h.1.lt z hz).1)⟩
/-- Is a frame of the first u isolated? -/
def alF (M : Nat → Int) (a u : Nat) : Prop := ∃ i, i < u ∧ M ((a + i) / 8) = 3
theorem alF_zero (M : Nat → Int) (a : Nat) : ¬ alF M a 0 := by rintro ⟨i, h, _⟩; omega
theorem alF_succ (M : Nat → Int) (a u : Nat) : alF M a (u + 1) ↔ alF M a u ∨ M ((a + u) / 8) = 3 := by
  constructor
  · rintro ⟨i, h, hb⟩
    by_cases e : i = u
    · subst e; exact .inr hb
    · exact .inl ⟨i, by omega, hb⟩
  · rintro (⟨i, h, hb⟩ | hb)
    · exact ⟨i, by omega, hb⟩
    · exact ⟨u, by omega, hb⟩
theorem alF_alB {M : Nat → Int} {a k : Nat} (h3 : 3 < k) (ha : a % 8 = 0) : alF M a (2 ^ k) ↔ alB M a k = true := by
  have h8 := p8 (k := k) (by omega)
  unfold alB alF
  rw [List.any_eq_true]
  constructor
  · rintro ⟨i, hi, h⟩
    refine ⟨i / 8, List.mem_range.mpr (by omega), ?_⟩
    rw [show a / 8 + i / 8 = (a + i) / 8 by omega]
    simp [h]
  · rintro ⟨j, hj, h⟩
    rw [List.mem_range] at hj
    refine ⟨8 * j, by omega, ?_⟩
    rw [show (a + 8 * j) / 8 = a / 8 + j by omega]
    simpa using h
def RpC (F : Nat → Bool) (M : Nat → Int) (w : World) (e : Ending) (w' : World) : Prop :=
  ∃ v D, e = .returned v ∧ IsBl F D ∧ OwnL bkE w' w.heap.size 96 v (pcs M D) ∧ (pcs M D).length ≤ 1000000 ∧ Keep (fun _ => False) w w'

set_option maxRecDepth 100000 in
set_option maxHeartbeats 4000000 in
theorem rpieces_any {w : World} {X x g r cap n : Nat} {F : Nat → Bool} {M : Nat → Int} (h : RK w X x g r cap n F M) (hF : ∀ i, F i = true → i < n) :
    Calls Tryz.prog 91 #[.pointer (some ⟨X, 0, none⟩)] w (RpC F M w) := by
  have HO := Lib.hid h
  have HFN := Lib.hid hF
  obtain ⟨z0, z1⟩ := cell2b h.hX
  clear h hF
  go_enter Tryz.func91, Tryz.ntmps91
  go_wp2_with fail
  refine (rblocks_any HO.out.rx HO.out.n8.2 HFN.out).mono ?_
  rintro e w2 ⟨v3, D, rfl, hO, hI, hl, hk2⟩
  obtain ⟨a3, c3, rfl, hag⟩ := hO.slice
  have HPS : Hid (RpS w w2 (.slice none 0 0) (.slice a3 D.length c3) D []) := ⟨OwnL.nil _ _ _, hO, fun x hx => by simp [Value.ownBlock] at hx, hk2⟩
  have HI := Lib.hid hI
  have HL := Lib.hid hl
  have HAG := Lib.hid hag
  have HD8 : Hid (∀ x, x ∈ D → x.o.toNat ≤ 8) := fun x hx => by
    obtain ⟨q, a, hm, rfl⟩ := (hI.2 x).mp hx
    simpa using hm.1
  clear z0 z1 hO hI hl hag hk2
  go_wp2
  go_loopw [4, 5] (fun v i wr => ∃ j : Nat, j ≤ D.length ∧ i = .int .i64 (j : Int) ∧ RpS w wr v (.slice a3 D.length c3) D (pcs M (D.take j))) (fun _ i _ => D.length - (intOf i).toNat)
  case atStart => exact ⟨0, by omega, rfl, HPS.out⟩
  case round =>
    obtain ⟨j, hj, rfl, hS⟩ := hrel
    have HS := Lib.hid hS
    obtain ⟨a4, l4, c4, rfl⟩ := own_slice hS.1
    clear hS HPS
    have HLA : Hid ((pcs M (D.take j)).length ≤ 320000) := by
      have h2 := pcs_len (M := M) (L := D.take j) fun x hx => HD8.out x (List.mem_of_mem_take hx)
      have h3 := HL.out
      rw [List.length_take] at h2
      show _ ≤ _
      omega
    by_cases hjl : j < D.length
    · obtain ⟨g0, rfl⟩ := HAG.out (by intro e; rw [e] at hjl; simp at hjl)
      obtain ⟨c0, c1⟩ := bk_cells HS.out.2.1 hjl
      have hstep := pcs_take (M := M) hjl
      obtain ⟨q, a, hm, hy⟩ := (HI.out.2 _).mp (List.getElem_mem hjl)
      rw [hy] at c0 c1 hstep
      simp only at c0 c1
      have hend := blk_end HFN.out hm.2.2.1
      have HM := Lib.hid hm
      have j0 : (0 : Int) ≤ j := by omega
      have j1 : (j : Int) < D.length := by omega
      have j2 : (j : Int) < 20000 := by have := HL.out; omega
      have hn1 := HO.out.n8.2
      obtain ⟨P, hP⟩ : ∃ P, 2 ^ q = P := ⟨_, rfl⟩
      have HSZ : Hid (∀ W, Calls Tryz.prog 16 #[.int .i64 (q : Int)] W fun e w' => e = .returned (.int .i64 (P : Int)) ∧ w' = W) := fun W => by
        rw [← hP, show ((2 ^ q : Nat) : Int) = (2 : Int) ^ q by simp]; exact size_any q hm.1 W
      have HPP := Lib.hid hP
      rw [hP] at hend
      have hwe : IntKind.i64.wrap ((a : Int) + (P : Int)) = ((a + P : Nat) : Int) := wsum a P (by omega) (by omega)
      obtain ⟨E, hE⟩ : ∃ E, a + P = E := ⟨_, rfl⟩
      rw [hE] at hwe hend
      have HEE := Lib.hid hE
      have HEN : Hid (E ≤ n ∧ n ≤ 1024) := ⟨hend, hn1⟩
      have HST := Lib.hid hstep
      have HCC := Lib.hid (And.intro c0 c1)
      have HY := Lib.hid hy
      clear hm hy hP hE hstep hend hn1 c0 c1
      obtain ⟨c0, c1⟩ := HCC.out
      go_wp2
      clear c0 c1
      go_loopw [6, 7] (fun al fv w5 => ∃ (t u : Nat) (tb : Bool), fv = .int .i64 (t : Int) ∧ al = .bool tb ∧ t = a + u ∧ u ≤ P ∧ (tb = true ↔ alF M a u) ∧ Keep (fun _ => False) wr w5) (fun _ fv _ => 3000 - (intOf fv).toNat)
      case atStart => exact ⟨a, 0, false, rfl, rfl, rfl, Nat.zero_le _, by simpa using alF_zero M a, Keep.refl _ _⟩
      case round =>
        obtain ⟨t, u, tb, rfl, rfl, ht, hu, htb, hk5⟩ := hrel
        have HTB := Lib.hid htb
        have HTU := Lib.hid (And.intro ht hu)
        have HS5 := Lib.hid (HS.out.keep0 hk5)
        have HK5 := Lib.hid hk5
        have HO5 := Lib.hid (HO.out.keep0 HS5.out.2.2.2)
        obtain ⟨c0, c1⟩ : wr.cell? ⟨g0, j * 2, none⟩ = some (.int .i64 (a : Int)) ∧ wr.cell? ⟨g0, j * 2 + 1, none⟩ = some (.int .i64 (q : Int)) := ⟨(hk5.cell (block_lt_cell HCC.out.1) id).trans HCC.out.1, (hk5.cell (block_lt_cell HCC.out.2) id).trans HCC.out.2⟩
        have HC5 := Lib.hid (And.intro c0 c1)
        clear htb hk5
        by_cases hlt : t < E
        · have t1 : decide ((t : Int) < (E : Int)) = true := decide_eq_true (Int.ofNat_lt.mpr hlt)
          have t2 : decide (t < E) = true := decide_eq_true hlt
          have htn : t < n := Nat.lt_of_lt_of_le hlt HEN.out.1
          have ht3 : (t : Int) < 2000 := by have := HEN.out.2; omega
          have HUP : Hid (u + 1 ≤ P) := by have := HEE.out; show u + 1 ≤ P; omega
          have HNX : Hid (t + 1 = a + (u + 1)) := by show t + 1 = _; omega
          cases tb with
          | true =>
            clear ht hu hlt
            go_wp2
            go_quiet (first | (go_at_call 16; exact Calls.quiet_of_same (HSZ.out _)))
            go_wp2
            go_roundw
            case rel => exact ⟨t + 1, u + 1, true, by go_num, rfl, HNX.out, HUP.out, (by rw [alF_succ]; have h := HTB.out; simp at h; simp [h]), (by (repeat (first | exact HK5.out | exact Keep.refl _ _ | refine Keep.drew ?_ | refine Keep.drewN ?_ _ | refine Keep.alloc ?_ _ | refine Keep.setNew ?_ (by omega) _)); done)⟩
            case measure => (clear hwe; simp [intOf]; omega)
          | false =>
            obtain ⟨m, hmm⟩ : ∃ m : Int, M (t / 8) = m := ⟨_, rfl⟩
            have HOF : Hid (∀ W, Keep (fun _ => False) wr W → Calls Tryz.prog 29 #[.pointer (some ⟨X, 0, none⟩), .int .i64 (t : Int)] W fun e w' => e = .returned (.int .i64 m) ∧ w' = W) := fun W K => by rw [← hmm]; exact of_in (HO5.out.keep0 K) htn
            have HMM : Hid (M ((a + u) / 8) = m) := by show M _ = m; rw [← ht]; exact hmm
            clear ht hu hlt hmm
            go_wp2
            go_quiet (first | (go_at_call 16; exact Calls.quiet_of_same (HSZ.out _)))
            go_wp2_with (go_at_call 29; refine (HOF.out _ (by (repeat (first | exact Keep.refl _ _ | exact Keep.refl _ _ | refine Keep.drew ?_ | refine Keep.drewN ?_ _ | refine Keep.alloc ?_ _ | refine Keep.setNew ?_ (by omega) _)); done)).mono ?_; rintro e w6 ⟨rfl, rfl⟩)
            go_roundw
            case rel => exact ⟨t + 1, u + 1, m == 3, by go_num, rfl, HNX.out, HUP.out, (by rw [alF_succ, HMM.out]; have h := HTB.out; simp at h; simp [h]), (by (repeat (first | exact HK5.out | exact Keep.refl _ _ | refine Keep.drew ?_ | refine Keep.drewN ?_ _ | refine Keep.alloc ?_ _ | refine Keep.setNew ?_ (by omega) _)); done)⟩
            case measure => (clear hwe; simp [intOf]; omega)
        · have t1 : decide ((t : Int) < (E : Int)) = false := decide_eq_false (fun h => hlt (Int.ofNat_lt.mp h))
          have t2 : decide (t < E) = false := decide_eq_false hlt
          have HUE : Hid (u = P) := by have := HEE.out; show u = P; omega
          clear ht hu hlt
          by_cases hq3 : q ≤ 3
          · have t5 : decide ((q : Int) ≤ 3) = true := by simp; omega
            have t6 : decide (q ≤ 3) = true := by simp; omega
            have HQ3 := Lib.hid hq3
            clear hq3
            have HSU : Hid (pcs M (D.take (j + 1)) = pcs M (D.take j) ++ [⟨(a : Int), (q : Int)⟩]) := by show _ = _; rw [HST.out, pcB_one (.inl HQ3.out)]
            go_wp2
            go_quiet (first | (go_at_call 16; exact Calls.quiet_of_same (HSZ.out _)))
            generalize hwq : World.drewN wr _ = wq
            have HKQ : Hid (Keep (fun _ => False) wr wq) := by rw [← hwq]; exact (by (repeat (first | exact Keep.refl _ _ | exact Keep.refl _ _ | refine Keep.drew ?_ | refine Keep.drewN ?_ _ | refine Keep.alloc ?_ _ | refine Keep.setNew ?_ (by omega) _)); done)
            have HSQ := Lib.hid (HS5.out.keep0 HKQ.out)
            clear hwq c0 c1
            obtain ⟨c0, c1⟩ : wq.cell? ⟨g0, j * 2, none⟩ = some (.int .i64 (a : Int)) ∧ wq.cell? ⟨g0, j * 2 + 1, none⟩ = some (.int .i64 (q : Int)) := ⟨(HKQ.out.cell (block_lt_cell HC5.out.1) id).trans HC5.out.1, (HKQ.out.cell (block_lt_cell HC5.out.2) id).trans HC5.out.2⟩
            go_wp2_with (at_builtin; go_loud (refine wpl_appF et43 rfl (.tmp 58) (.tmp 63) rfl w.heap.size (.slice a4 l4 c4) (pcs M (D.take j)).length (bkE.cs (pcs M (D.take j))) (by rfl) (HSQ.out.1.keep (S := fun _ => False) (by (repeat (first | exact Keep.refl _ _ | exact Keep.refl _ _ | refine Keep.drew ?_ | refine Keep.drewN ?_ _ | refine Keep.alloc ?_ _ | refine Keep.setNew ?_ (by omega) _)); done) (fun _ _ => id)) ⟨wq.heap.size, 0, none⟩ 1 1 [.int .i64 (a : Int), .int .i64 (q : Int)] (by rfl) rfl (new_cells (heap_alloc_new wq _)) (by simp [Value.oneCell']) (by have := HLA.out; unfold maxLen; omega) (by have := HLA.out; omega) (Nat.le_trans HSQ.out.2.2.2.size (by simp)) ?_; intro v7 w7 ho7 hg7 hv7; obtain ⟨a7, l7, c7, rfl⟩ := own_slice ho7; have HS7 := Lib.hid (HSQ.out.app (v' := .slice a7 l7 c7) (A' := pcs M (D.take j) ++ [⟨(a : Int), (q : Int)⟩]) (Keep.grown (by (repeat (first | exact Keep.refl _ _ | exact Keep.refl _ _ | refine Keep.drew ?_ | refine Keep.drewN ?_ _ | refine Keep.alloc ?_ _ | refine Keep.setNew ?_ (by omega) _)); done) hg7 (fun x h1 h2 => h1)) (own_conv49 ho7 (by rw [List.length_append (bs := [_])]; rfl) (bk_app1 _ _ _)) (fun x hx => (hv7 x hx).imp id (fun h => by simp at h; omega))); clear ho7 hg7 hv7))
            go_roundw
            case rel => exact ⟨j + 1, by omega, by go_num, by rw [HSU.out]; exact HS7.out⟩
            case measure => (clear hwe; simp [intOf]; omega)
          · have t5 : decide ((q : Int) ≤ 3) = false := by simp; omega
            have t6 : decide (q ≤ 3) = false := by simp; omega
            have HQ3 : Hid (3 < q) := by show 3 < q; omega
            have HA8 : Hid (a % 8 = 0) := by have := mod_of_le (j := 3) (show 3 ≤ q by omega) HM.out.2.1; show a % 8 = 0; simpa using this
            have HTP : Hid (tb = true ↔ alB M a q = true) := by
              have h := HTB.out
              rw [HUE.out, ← HPP.out, alF_alB HQ3.out HA8.out] at h
              exact h
            clear hq3
            cases tb with
            | false =>
              have HAL : Hid (alB M a q = false) := by show alB M a q = false; rw [← Bool.not_eq_true]; exact fun h => absurd (HTP.out.mpr h) (by simp)
              have HSU : Hid (pcs M (D.take (j + 1)) = pcs M (D.take j) ++ [⟨(a : Int), (q : Int)⟩]) := by show _ = _; rw [HST.out, pcB_one (.inr HAL.out)]
              go_wp2
              go_quiet (first | (go_at_call 16; exact Calls.quiet_of_same (HSZ.out _)))
              generalize hwq : World.drewN wr _ = wq
              have HKQ : Hid (Keep (fun _ => False) wr wq) := by rw [← hwq]; exact (by (repeat (first | exact Keep.refl _ _ | exact Keep.refl _ _ | refine Keep.drew ?_ | refine Keep.drewN ?_ _ | refine Keep.alloc ?_ _ | refine Keep.setNew ?_ (by omega) _)); done)
              have HSQ := Lib.hid (HS5.out.keep0 HKQ.out)
              clear hwq c0 c1
              obtain ⟨c0, c1⟩ : wq.cell? ⟨g0, j * 2, none⟩ = some (.int .i64 (a : Int)) ∧ wq.cell? ⟨g0, j * 2 + 1, none⟩ = some (.int .i64 (q : Int)) := ⟨(HKQ.out.cell (block_lt_cell HC5.out.1) id).trans HC5.out.1, (HKQ.out.cell (block_lt_cell HC5.out.2) id).trans HC5.out.2⟩
              go_wp2_with (at_builtin; go_loud (refine wpl_appF et43 rfl (.tmp 58) (.tmp 63) rfl w.heap.size (.slice a4 l4 c4) (pcs M (D.take j)).length (bkE.cs (pcs M (D.take j))) (by rfl) (HSQ.out.1.keep (S := fun _ => False) (by (repeat (first | exact Keep.refl _ _ | exact Keep.refl _ _ | refine Keep.drew ?_ | refine Keep.drewN ?_ _ | refine Keep.alloc ?_ _ | refine Keep.setNew ?_ (by omega) _)); done) (fun _ _ => id)) ⟨wq.heap.size, 0, none⟩ 1 1 [.int .i64 (a : Int), .int .i64 (q : Int)] (by rfl) rfl (new_cells (heap_alloc_new wq _)) (by simp [Value.oneCell']) (by have := HLA.out; unfold maxLen; omega) (by have := HLA.out; omega) (Nat.le_trans HSQ.out.2.2.2.size (by simp)) ?_; intro v7 w7 ho7 hg7 hv7; obtain ⟨a7, l7, c7, rfl⟩ := own_slice ho7; have HS7 := Lib.hid (HSQ.out.app (v' := .slice a7 l7 c7) (A' := pcs M (D.take j) ++ [⟨(a : Int), (q : Int)⟩]) (Keep.grown (by (repeat (first | exact Keep.refl _ _ | exact Keep.refl _ _ | refine Keep.drew ?_ | refine Keep.drewN ?_ _ | refine Keep.alloc ?_ _ | refine Keep.setNew ?_ (by omega) _)); done) hg7 (fun x h1 h2 => h1)) (own_conv49 ho7 (by rw [List.length_append (bs := [_])]; rfl) (bk_app1 _ _ _)) (fun x hx => (hv7 x hx).imp id (fun h => by simp at h; omega))); clear ho7 hg7 hv7))
              go_roundw
              case rel => exact ⟨j + 1, by omega, by go_num, by rw [HSU.out]; exact HS7.out⟩
              case measure => (clear hwe; simp [intOf]; omega)
            | true =>
              have HAL : Hid (alB M a q = true) := HTP.out.mp rfl
              obtain ⟨Q, hQ⟩ : ∃ Q, 2 ^ (q - 3) = Q := ⟨_, rfl⟩
              have HSU : Hid (pcs M (D.take (j + 1)) = pcs M (D.take j) ++ secs a Q) := by show _ = _; rw [HST.out, pcB_many HQ3.out HAL.out, hQ]
              have HPQ : Hid (P = 8 * Q) := by show P = _; rw [← HPP.out, ← hQ]; exact p8 (Nat.le_of_lt HQ3.out)
              have HQ32 : Hid (Q ≤ 128) := by have h1 := HPQ.out; have h2 := HEE.out; have h3 := HEN.out; show Q ≤ 128; omega
              clear hQ
              go_wp2
              go_quiet (first | (go_at_call 16; exact Calls.quiet_of_same (HSZ.out _)))
              generalize hwq : World.drewN wr _ = wq
              have HKQ : Hid (Keep (fun _ => False) wr wq) := by rw [← hwq]; exact (by (repeat (first | exact Keep.refl _ _ | exact Keep.refl _ _ | refine Keep.drew ?_ | refine Keep.drewN ?_ _ | refine Keep.alloc ?_ _ | refine Keep.setNew ?_ (by omega) _)); done)
              have HSQ0 := Lib.hid (HS5.out.keep0 HKQ.out)
              clear hwq c0 c1
              obtain ⟨c0, c1⟩ : wq.cell? ⟨g0, j * 2, none⟩ = some (.int .i64 (a : Int)) ∧ wq.cell? ⟨g0, j * 2 + 1, none⟩ = some (.int .i64 (q : Int)) := ⟨(HKQ.out.cell (block_lt_cell HC5.out.1) id).trans HC5.out.1, (HKQ.out.cell (block_lt_cell HC5.out.2) id).trans HC5.out.2⟩
              go_wp2
              clear c0 c1
              go_loopw [4, 8] (fun v8 fv w8 => ∃ t u : Nat, fv = .int .i64 (t : Int) ∧ t = a + 8 * u ∧ u ≤ Q ∧ RpS w w8 v8 (.slice (some ⟨g0, 0, none⟩) D.length c3) D (pcs M (D.take j) ++ secs a u)) (fun _ fv _ => 3000 - (intOf fv).toNat)
              case atStart => exact ⟨a, 0, rfl, by omega, Nat.zero_le _, by simpa [secs] using HSQ0.out⟩
              case round =>
                clear t1 t2
                obtain ⟨t, u, rfl, ht, hu, hS8⟩ := hrel
                obtain ⟨a8, l8, c8, rfl⟩ := own_slice hS8.1
                have HSQ0 := Lib.hid hS8
                obtain ⟨c0, c1⟩ := bk_cells HSQ0.out.2.1 hjl
                rw [HY.out] at c0 c1
                simp only at c0 c1
                have HTU8 := Lib.hid ht
                clear hS8
                by_cases hlt : t < E
                · have t1 : decide ((t : Int) < (E : Int)) = true := decide_eq_true (Int.ofNat_lt.mpr hlt)
                  have t2 : decide (t < E) = true := decide_eq_true hlt
                  have ht3 : (t : Int) < 2000 := by have := HEN.out; omega
                  have HUQ : Hid (u + 1 ≤ Q) := by have := HPQ.out; have := HEE.out; show u + 1 ≤ Q; omega
                  have HL8 : Hid ((pcs M (D.take j) ++ secs a u).length ≤ 1000000) := by
                    have h1 := HLA.out
                    have h3 : (secs a u).length = u := by simp [secs]
                    have h4 := HQ32.out
                    show _ ≤ _
                    rw [List.length_append]
                    omega
                  have HNX : Hid (t + 8 = a + 8 * (u + 1)) := by show t + 8 = _; omega
                  clear ht hu hlt
                  go_wp2
                  go_quiet (first | (go_at_call 16; exact Calls.quiet_of_same (HSZ.out _)))
                  generalize hwq2 : World.drewN wr _ = wq
                  have HSQ : Hid (RpS w wq (.slice a8 l8 c8) (.slice (some ⟨g0, 0, none⟩) D.length c3) D (pcs M (D.take j) ++ secs a u)) := by rw [← hwq2]; exact HSQ0.out.keep0 (by (repeat (first | exact Keep.refl _ _ | exact Keep.refl _ _ | refine Keep.drew ?_ | refine Keep.drewN ?_ _ | refine Keep.alloc ?_ _ | refine Keep.setNew ?_ (by omega) _)); done)
                  clear hwq2 c0 c1
                  go_wp2_with (at_builtin; go_loud (refine wpl_appF et43 rfl (.tmp 86) (.tmp 89) rfl w.heap.size (.slice a8 l8 c8) (pcs M (D.take j) ++ secs a u).length (bkE.cs (pcs M (D.take j) ++ secs a u)) (by rfl) (HSQ.out.1.keep (S := fun _ => False) (by (repeat (first | exact Keep.refl _ _ | exact Keep.refl _ _ | refine Keep.drew ?_ | refine Keep.drewN ?_ _ | refine Keep.alloc ?_ _ | refine Keep.setNew ?_ (by omega) _)); done) (fun _ _ => id)) ⟨wq.heap.size, 0, none⟩ 1 1 [.int .i64 (t : Int), .int .i64 3] (by rfl) rfl (new_cells (heap_alloc_new wq _)) (by simp [Value.oneCell']) (by have := HL8.out; unfold maxLen; omega) (by have := HL8.out; omega) (Nat.le_trans HSQ.out.2.2.2.size (by simp)) ?_; intro v7 w7 ho7 hg7 hv7; obtain ⟨a7, l7, c7, rfl⟩ := own_slice ho7; have HS7 := Lib.hid (HSQ.out.app (v' := .slice a7 l7 c7) (A' := (pcs M (D.take j) ++ secs a u) ++ [⟨(t : Int), 3⟩]) (Keep.grown (by (repeat (first | exact Keep.refl _ _ | exact Keep.refl _ _ | refine Keep.drew ?_ | refine Keep.drewN ?_ _ | refine Keep.alloc ?_ _ | refine Keep.setNew ?_ (by omega) _)); done) hg7 (fun x h1 h2 => h1)) (own_conv49 ho7 (by rw [List.length_append (bs := [_])]; rfl) (bk_app1 _ _ _)) (fun x hx => (hv7 x hx).imp id (fun h => by simp at h; omega))); clear ho7 hg7 hv7))
                  go_roundw
                  case rel => exact ⟨t + 8, u + 1, by go_num, HNX.out, HUQ.out, by (rw [secs_succ, ← HTU8.out, ← List.append_assoc]; exact HS7.out)⟩
                  case measure => (clear hwe; simp [intOf]; omega)
                · have t1 : decide ((t : Int) < (E : Int)) = false := decide_eq_false (fun h => hlt (Int.ofNat_lt.mp h))
                  have t2 : decide (t < E) = false := decide_eq_false hlt
                  have HUE8 : Hid (u = Q) := by have := HPQ.out; have := HEE.out; show u = Q; omega
                  clear ht hu hlt
                  go_wp2
                  go_quiet (first | (go_at_call 16; exact Calls.quiet_of_same (HSZ.out _)))
                  go_wp2
                  go_roundw
                  case rel => exact ⟨j + 1, by omega, by go_num, by rw [HSU.out, ← HUE8.out]; exact HSQ0.out.keep0 (by (repeat (first | exact Keep.refl _ _ | exact Keep.refl _ _ | refine Keep.drew ?_ | refine Keep.drewN ?_ _ | refine Keep.alloc ?_ _ | refine Keep.setNew ?_ (by omega) _)); done)⟩
                  case measure => (clear hwe; simp [intOf]; omega)
    · obtain rfl : j = D.length := by omega
      rw [List.take_length] at HS HLA
      go_wp2
      go_ret
      exact ⟨_, D, rfl, HI.out, HS.out.1, Nat.le_trans HLA.out (by decide), HS.out.2.2.2⟩

/- Part KQ: Kinds: the reference's Take. -/
def RtC (w : World) (X x g r cap n : Nat) (F : Nat → Bool) (M : Nat → Int) (o : Nat) (kd : Int) (e : Ending) (w' : World) : Prop :=
  ∃ D, IsBl F D ∧ ((tkP M D o kd = none ∧ e = .returned (.tuple #[.int .i64 0, .int .i64 8]) ∧ Keep (fun _ => False) w w') ∨
    (∃ (y : Bk) (own : Bool), tkP M D o kd = some (y, own) ∧ e = .returned (.tuple #[.int .i64 y.f, .int .i64 0]) ∧ RK w' X x g r cap n (subB F o y.f.toNat) (tkM M o kd y own) ∧ Keep (fun z => z = g ∨ z = r) w w'))
theorem rtake_bad (p : Nat) (o x : Int) (h : o < 0 ∨ 8 < o ∨ x < 0 ∨ 2 < x) (w : World) : Calls Tryz.prog 73 #[.pointer (some ⟨p, 0, none⟩), .int .i64 o, .int .i64 x] w fun e w' => e = .returned (.tuple #[.int .i64 0, .int .i64 2]) ∧ w' = w := by
  by_cases h1 : o < 0
  · have t1 : decide (o < 0) = true := decide_eq_true h1
    clear h h1
    go_enter Tryz.func73, Tryz.ntmps73
    go_wp2
    go_ret2
    exact ⟨rfl, rfl⟩
  have t1 : decide (o < 0) = false := decide_eq_false h1
  by_cases h2 : 8 < o
  · have t2 : decide (8 < o) = true := decide_eq_true h2
    clear h h1 h2
    go_enter Tryz.func73, Tryz.ntmps73
    go_wp2
    go_ret2
    exact ⟨rfl, rfl⟩
  have t2 : decide (8 < o) = false := decide_eq_false h2
  by_cases h3 : x < 0
  · have t3 : decide (x < 0) = true := decide_eq_true h3
    clear h h1 h2 h3
    go_enter Tryz.func73, Tryz.ntmps73
    go_wp2
    go_ret2
    exact ⟨rfl, rfl⟩
  have t3 : decide (x < 0) = false := decide_eq_false h3
  have t4 : decide (2 < x) = true := by simp; omega
  clear h h1 h2 h3
  go_enter Tryz.func73, Tryz.ntmps73
  go_wp2
  go_ret2
  exact ⟨rfl, rfl⟩
/-- Change of a piece that is free. -/
theorem rtk_change {w : World} {X x g r cap n a o q : Nat} {F : Nat → Bool} {M : Nat → Int} (h : RK w X x g r cap n F M) (hF : ∀ i, F i = true → i < n) (hq : q ≤ 8) (ha : a % 2 ^ q = 0) (hb : blk F q a) (hoq : o ≤ q) :
    Calls Tryz.prog 76 #[.pointer (some ⟨x, 0, none⟩), .int .i64 (a : Int), .int .i64 (o : Int), .bool false] w fun e w' => e = .returned (.int .i64 0) ∧ RK w' X x g r cap n (subB F o a) M ∧ Keep (fun z => z = g) w w' := by
  have hao := Nat.mod_eq_zero_of_dvd (Nat.dvd_trans (Nat.pow_dvd_pow 2 hoq) (Nat.dvd_of_mod_eq_zero ha))
  have hbo : blk F o a := blk_in hb (Nat.le_refl _) (by have := Nat.pow_le_pow_right (n := 2) (by decide) hoq; omega)
  have hend := blk_end hF hbo
  have hp := p2 o
  refine (rchange_any (a : Int) (o : Int) false h.rx h.n8.2 (by have := h.n8.2; omega)).mono ?_
  rintro e w' (⟨h0, _⟩ | ⟨_, f', o', e1, e2, _, _, _, ⟨h1, _⟩ | ⟨_, rfl, hr, hk⟩⟩)
  · exact absurd (wrE_zero (by omega) hao hend) h0
  · obtain rfl : a = f' := by omega
    obtain rfl : o = o' := by omega
    exact absurd ((allB_blk hF).mpr hbo) h1
  · obtain rfl : a = f' := by omega
    obtain rfl : o = o' := by omega
    rw [putB_false] at hr
    obtain ⟨C, hg, _⟩ := h.rx.2
    obtain ⟨c2, h2⟩ := h.mt.typ
    exact ⟨rfl, ⟨(hk.block X (block_lt h.hX) (typ_ne h.hX hg (by decide))).trans h.hX, hr, h.mt.keep hk (typ_ne h2 hg (by decide)), h.n8⟩, hk⟩

end Go.Proofs.YtjffdimlbppgcaaGreat
