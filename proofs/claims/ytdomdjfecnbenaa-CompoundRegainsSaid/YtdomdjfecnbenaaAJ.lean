/- CompoundKept: the plain law and the walk. -/
import Derived.Test.YtdomdjfecnbenaaAI
import Derived.Test.YtdomdjfecnbenaaJ
set_option linter.unusedVariables false
set_option linter.unusedSimpArgs false
namespace Go.Proofs.Ytdomdjfecnbenaa
open Go.RowKit Go.Own

theorem Inv.qok {L : List Cp} {Q : List Int} {X : List On} {T : Int} (h : Inv L Q X T) : ∀ f, f ∈ Q → ∃ x k : Nat, f = x ∧ x < 1024 ∧ x / 8 * 8 = x ∧ whI L x = k ∧ ∃ hk : k < L.length, L[k].f = x ∧ L[k].b ≠ 0 := by
  intro f hf
  obtain ⟨c, hc, rfl, h2⟩ := (h.qm f).mp hf
  have hfr := h.fr c hc
  obtain ⟨x, hx⟩ := Int.eq_ofNat_of_zero_le hfr.1
  obtain ⟨j, hj, rfl⟩ := List.getElem_of_mem hc
  rcases whI_cases L x with ⟨h3, h4⟩ | ⟨k, h3, hk, h4⟩
  · exact absurd hx (h4 j hj)
  · refine ⟨x, k, hx, by omega, by omega, h3, hk, h4, ?_⟩
    have := mem_uniq h.so (List.getElem_mem hk) (List.getElem_mem hj) (by omega)
    rw [this]; exact h2
theorem Inv.qok' {L : List Cp} {Q : List Int} {X : List On} {T : Int} (h : Inv L Q X T) : ∀ f, f ∈ Q → ∃ x k : Nat, f = x ∧ x < 1024 ∧ x / 8 * 8 = x ∧ whI L x = k ∧ k < L.length := by
  intro f hf
  obtain ⟨x, k, h1, h2, h3, h4, h5, _⟩ := h.qok f hf
  exact ⟨x, k, h1, h2, h3, h4, h5⟩

theorem Inv.gq {L : List Cp} {Q : List Int} {X : List On} {T : Int} (h : Inv L Q X T) {f : Int} (hf : f ∈ Q) : L.getD (whI L f).toNat ⟨0, 0⟩ ∈ L ∧ (L.getD (whI L f).toNat ⟨0, 0⟩).f = f ∧ (L.getD (whI L f).toNat ⟨0, 0⟩).b ≠ 0 := by
  obtain ⟨x, k, rfl, _, _, h4, hk, h5, h6⟩ := h.qok f hf
  have e : L.getD (whI L (x : Int)).toNat ⟨0, 0⟩ = L[k] := by rw [h4, Int.toNat_natCast]; simp [hk]
  rw [e]
  exact ⟨List.getElem_mem hk, h5, h6⟩
theorem Inv.mem_q {L : List Cp} {Q : List Int} {X : List On} {T : Int} (h : Inv L Q X T) (c : Cp) : c ∈ qL L Q ↔ c ∈ L ∧ c.b ≠ 0 := by
  unfold qL
  rw [List.mem_map]
  constructor
  · rintro ⟨f, hf, rfl⟩
    have := h.gq hf
    exact ⟨this.1, this.2.2⟩
  · rintro ⟨hc, hb⟩
    have hf : c.f ∈ Q := (h.qm c.f).mpr ⟨c, hc, rfl, hb⟩
    have := h.gq hf
    exact ⟨c.f, hf, mem_uniq h.so this.1 hc this.2.1⟩
theorem Inv.nodup_q {L : List Cp} {Q : List Int} {X : List On} {T : Int} (h : Inv L Q X T) : (qL L Q).Nodup := by
  unfold qL
  rw [List.nodup_iff_pairwise_ne, List.pairwise_map]
  refine (List.nodup_iff_pairwise_ne.mp h.qn).imp_of_mem ?_
  intro a b ha hb hne e
  have h1 := (h.gq ha).2.1
  have h2 := (h.gq hb).2.1
  rw [e] at h1
  exact hne (h1.symm.trans h2)
theorem Inv.count_q {L : List Cp} {Q : List Int} {X : List On} {T : Int} (h : Inv L Q X T) {c : Cp} (hc : c ∈ L) : (qL L Q).count c = if c.b ≠ 0 then 1 else 0 := by
  by_cases hb : c.b ≠ 0
  · rw [if_pos hb]
    have h1 : 0 < (qL L Q).count c := List.count_pos_iff.mpr ((h.mem_q c).mpr ⟨hc, hb⟩)
    have h2 : (qL L Q).count c ≤ 1 := List.nodup_iff_count.mp h.nodup_q c
    omega
  · rw [if_neg hb]
    exact List.count_eq_zero.mpr (fun hm => hb ((h.mem_q c).mp hm).2)

def totN (D L : List Cp) : Nat → Nat
  | 0 => 0
  | k + 1 => totN D L k + D.count (L.getD k ⟨0, 0⟩)
theorem totN_sum (D L : List Cp) : ∀ k, k ≤ L.length → totN D L k = ((L.take k).map fun c => D.count c).sum := by
  intro k
  induction k with
  | zero => intro _; rfl
  | succ k ih =>
    intro hk
    rw [List.take_succ_eq_append_getElem (by omega), List.map_append, List.sum_append, ← ih (by omega)]
    simp [totN, show k < L.length by omega]
theorem sum_cons (L : List Cp) (hn : L.Nodup) : ∀ D : List Cp, (∀ d, d ∈ D → d ∈ L) → (L.map fun c => D.count c).sum = D.length := by
  intro D
  induction D with
  | nil =>
    intro _
    clear hn
    induction L with
    | nil => rfl
    | cons c L ih => simpa using ih
  | cons d D ih =>
    intro hm
    have h1 := ih fun x hx => hm x (List.mem_cons_of_mem _ hx)
    have hd := hm d (List.mem_cons_self ..)
    have e : (L.map fun c => (d :: D).count c).sum = (L.map fun c => D.count c).sum + L.count d := by
      clear ih h1 hm hd hn
      induction L with
      | nil => rfl
      | cons c L ih =>
        rw [List.map_cons, List.sum_cons, ih, List.map_cons, List.sum_cons, List.count_cons, List.count_cons]
        by_cases e : d = c
        · subst e
          have e1 : (d == d) = true := by simp
          rw [e1, if_pos rfl]; omega
        · have e2 : (c == d) = false := by simpa using fun h => e h.symm
          have e3 : (d == c) = false := by simpa using e
          rw [e2, e3]; simp; omega
    rw [e, h1, List.length_cons, show L.count d = 1 from ?_]
    have h2 := List.count_pos_iff.mpr hd
    have h3 := List.nodup_iff_count.mp hn d
    omega
theorem so_nodup {L : List Cp} (h : L.Pairwise (fun a b => a.f < b.f)) : L.Nodup :=
  List.nodup_iff_pairwise_ne.mpr (h.imp fun h e => by rw [e] at h; omega)
theorem Inv.tot {L : List Cp} {Q : List Int} {X : List On} {T : Int} (h : Inv L Q X T) : totN (qL L Q) L L.length = (qL L Q).length := by
  rw [totN_sum _ _ _ (Nat.le_refl _), List.take_length]
  exact sum_cons L (so_nodup h.so) _ fun d hd => ((h.mem_q d).mp hd).1

def HavePrev (L : List Cp) (k : Nat) : Prop := k ≠ 0 → ∃ m, k = m + 1 ∧ ∃ (hm : m < L.length), ∃ hk : k < L.length, L[m].f < L[k].f
theorem so_ne_get {L : List Cp} (h : L.Pairwise (fun a b => a.f < b.f)) {m k : Nat} (hmk : m < k) (hk : k < L.length) : L[m].f < L[k].f := List.pairwise_iff_getElem.mp h m k (by omega) hk hmk

set_option maxRecDepth 100000 in
set_option maxHeartbeats 4000000 in
theorem kept_walk (la : Option Addr) (l c : Nat) (w : World) (hr : RowsAt w la l [.int .i64, .int .i64]) :
    Calls Try.prog 4 #[.slice la l c] w fun e w' => e = .returned (.bool true) ∧ Below w.heap.size w w' := by
  obtain ⟨A, rfl, hA⟩ := acts2_of_rows hr
  have H1 := Lib.hid hA
  clear hA hr
  go_enter Try.func4, Try.ntmps4
  go_wp2_with (first | (go_at_call 13; refine (made_any la A c _ H1.out).mono ?_; rintro e w1 ⟨p, q, rfl, hT, hk1⟩; have HT := Lib.hid hT; have HK1 := Lib.hid hk1; clear hT hk1) | (go_at_call 9; refine (awake_any _).mono ?_; rintro e w2 ⟨rfl, hk2⟩; have HT2 := Lib.hid (HT.out.keep0 hk2); have HK2 := Lib.hid (HK1.out.trans hk2); clear hk2))
  obtain ⟨v, u, vx, L, Q, X, T, hV⟩ := HT2.out
  have hll := hV.ll
  have hlq := hV.lq
  refine (all_any w.heap.size p v u L Q _ hV.rc).mono ?_
  rintro e w3 ⟨v3, rfl, hO3, hk3⟩
  have HV := Lib.hid (hV.keep0 hk3)
  have HO3 := Lib.hid hO3
  have HK3 := Lib.hid (HK2.out.trans hk3)
  clear hV hO3 hk3
  obtain ⟨a3, c3, rfl, hag3⟩ := HO3.out.slice
  have HAG3 := Lib.hid hag3
  clear hag3
  go_wp2_with (go_at_call 14; refine (queue_any w.heap.size p v u L Q _ HV.out.rc HV.out.iv.qok').mono ?_; rintro e w4 ⟨v4, rfl, hO4, hk4⟩; have HO4 := Lib.hid hO4; have HL := Lib.hid (HO3.out.keep hk4 (fun _ _ => id)); have HK4 := Lib.hid (HK3.out.trans hk4); obtain ⟨a4, c4, rfl, hag4⟩ := hO4.slice; have HAG4 := Lib.hid hag4; clear hO4 hk4 hag4)
  have hql := qL_len L Q
  have hQ8 : Q.length ≤ 80 := hlq
  go_loopw [8, 9] (fun n i wr => ∃ k : Nat, k ≤ L.length ∧ i = .int .i64 k ∧ n = .int .i64 (totN (qL L Q) L k : Nat) ∧ totN (qL L Q) L k ≤ k ∧ Keep (fun _ => False) w4 wr) (fun _ i _ => L.length - (intOf i).toNat)
  case atStart => exact ⟨0, by omega, rfl, rfl, Nat.le_refl _, Keep.refl _ _⟩
  case round =>
    obtain ⟨k, hk, rfl, rfl, hle, hkeep⟩ := hrel
    have HK := Lib.hid hkeep
    clear hkeep
    by_cases hlt : k < L.length
    · obtain ⟨g, rfl⟩ := HAG3.out (by intro e; rw [e] at hlt; simp at hlt)
      have HLw := Lib.hid (HL.out.keep HK.out (fun _ _ => id))
      obtain ⟨c0, c1⟩ := cp_cells HLw.out hlt
      have hfr := HV.out.iv.fr _ (List.getElem_mem hlt)
      have hcnt := HV.out.iv.count_q (List.getElem_mem hlt)
      obtain ⟨y, hy⟩ : ∃ y, L[k] = y := ⟨_, rfl⟩
      have HY := Lib.hid hy
      rw [hy] at c0 c1 hfr hcnt
      clear hy
      have t1 : ((y.b : Int) == 255) = false := by simp; omega
      have t2 : Int.tmod y.f 8 = 0 := by rw [Int.tmod_eq_emod_of_nonneg hfr.1]; exact hfr.2.2.1
      have hcl : (qL L Q).count y ≤ 1 := by rw [hcnt]; split <;> omega
      have hcb : (((qL L Q).count y : Nat) : Int) ≤ 1 := by omega
      have HCN := Lib.hid hcnt
      have HT1 : Hid (totN (qL L Q) L (k + 1) = totN (qL L Q) L k + (qL L Q).count y) := by
        unfold Hid; simp only [totN]; rw [show L.getD k ⟨0, 0⟩ = y by simp [hlt, HY.out]]
      clear hcnt
      have HFR := Lib.hid hfr
      have hmk : HavePrev L k := fun h0 => ⟨k - 1, by omega, by omega, hlt, so_ne_get HV.out.iv.so (by omega) hlt⟩
      have HMK := Lib.hid hmk
      clear hmk
      have hin : Hid (∀ d, d ∈ qL L Q → d ≠ y → d.f ≠ y.f) := fun d hd hne e => hne (mem_uniq HV.out.iv.so ((HV.out.iv.mem_q d).mp hd).1 (by rw [← HY.out]; exact List.getElem_mem hlt) e)
      have hside : (k = 0) ∨ (∃ m : Nat, k = m + 1 ∧ ∃ hm : m < L.length, L[m].f < y.f) := by
        by_cases h0 : k = 0
        · exact .inl h0
        · obtain ⟨m, h1, h2, _, h3⟩ := HMK.out h0
          rw [HY.out] at h3
          exact .inr ⟨m, h1, h2, h3⟩
      have hk0 : (0 : Int) ≤ k := by omega
      rcases hside with h0 | ⟨m, h0, hm, hlm⟩
      · have t3 : decide ((0 : Int) < (k : Int)) = false := by simp; omega
        have t3' : decide (0 < k) = false := by simp; omega
        have HH := Lib.hid h0
        clear h0
        go_wp2
        go_quiet (fail)
        go_wp2
        generalize hw9 : World.drewN wr nq = wo
        have HKo : Hid (Keep (fun _ => False) w4 wo) := by rw [← hw9]; exact HK.out.drewN _
        clear hw9 t1 t2 t3 t3' c0 c1
        go_loopw [10, 11] (fun n i w2 => ∃ j : Nat, j ≤ Q.length ∧ i = .int .i64 j ∧ n = .int .i64 (((qL L Q).take j).count y : Nat) ∧ Keep (fun _ => False) wo w2) (fun _ i _ => Q.length - (intOf i).toNat)
        case atStart => exact ⟨0, by omega, rfl, rfl, Keep.refl _ _⟩
        case round =>
          obtain ⟨j, hj, rfl, rfl, hkeep2⟩ := hrel
          have HK2 := Lib.hid (HKo.out.trans hkeep2)
          have HK2' := Lib.hid hkeep2
          clear hkeep2
          have hcj : ((qL L Q).take j).count y ≤ 1 := Nat.le_trans (List.Sublist.count_le _ (List.take_sublist _ _)) hcl
          have HLx := Lib.hid (HL.out.keep HK2.out (fun _ _ => id))
          obtain ⟨c0, c1⟩ := cp_cells HLx.out hlt
          rw [HY.out] at c0 c1
          by_cases hjl : j < Q.length
          · have hjl' : j < (qL L Q).length := by rw [hql]; exact hjl
            obtain ⟨g4, rfl⟩ := HAG4.out (by intro e; rw [e] at hjl'; simp at hjl')
            have HDx := Lib.hid (HO4.out.keep HK2.out (fun _ _ => id))
            obtain ⟨d0, d1⟩ := cp_cells HDx.out hjl'
            have hdm := List.getElem_mem hjl'
            have htk := List.take_succ_eq_append_getElem hjl'
            obtain ⟨d, hd⟩ : ∃ d, (qL L Q)[j] = d := ⟨_, rfl⟩
            rw [hd] at d0 d1 hdm htk
            clear hd
            by_cases hdy : d = y
            · subst hdy
              have HC : Hid (((qL L Q).take (j + 1)).count d = ((qL L Q).take j).count d + 1) := by unfold Hid; rw [htk, List.count_append]; simp
              have hc2 : ((qL L Q).take (j + 1)).count d ≤ 1 := Nat.le_trans (List.Sublist.count_le _ (List.take_sublist _ _)) hcl
              have HC2 := Lib.hid hc2
              clear htk hdm hc2
              go_wp2
              go_quiet (fail)
              go_wp2
              go_roundw
              case rel => exact ⟨j + 1, by omega, by go_num, by rw [HC.out]; go_num, HK2'.out.drewN _⟩
              case measure => simp [intOf]; omega
            · have hff : (d.f == y.f) = false := by have := hin.out d hdm hdy; simpa using this
              have HC : Hid (((qL L Q).take (j + 1)).count y = ((qL L Q).take j).count y) := by
                unfold Hid; rw [htk, List.count_append]
                have : (d == y) = false := by simpa using hdy
                simp [List.count_cons, this]
              have HDY := Lib.hid hdy
              clear htk hdm hdy
              go_wp2
              go_quiet (fail)
              go_wp2
              go_roundw
              case rel => exact ⟨j + 1, by omega, by go_num, by rw [HC.out], HK2'.out.drewN _⟩
              case measure => simp [intOf]; omega
          · obtain rfl : j = Q.length := by omega
            have htk : (qL L Q).take Q.length = qL L Q := List.take_of_length_le (by rw [hql]; exact Nat.le_refl _)
            have HTK := Lib.hid htk
            clear htk hcj
            rw [HTK.out]
            by_cases hb : y.b = 0
            · have hc0 : (qL L Q).count y = 0 := by rw [HCN.out, if_neg (by simpa using hb)]
              have hb' : ((y.b : Int) != 0) = false := by simpa using hb
              have HT2 : Hid (totN (qL L Q) L (k + 1) = totN (qL L Q) L k) := by unfold Hid; rw [HT1.out, hc0]; rfl
              rw [hc0]
              have HB := Lib.hid hb
              have HC0 := Lib.hid hc0
              clear hb hc0 hcl hcb
              go_wp2
              go_roundw
              case rel => exact ⟨k + 1, by omega, by go_num, by rw [HT2.out], by rw [HT2.out]; omega, HK2.out⟩
              case measure => simp [intOf]; omega
            · have hc0 : (qL L Q).count y = 1 := by rw [HCN.out, if_pos hb]
              have hb' : ((y.b : Int) != 0) = true := by simpa using hb
              have HT2 : Hid (totN (qL L Q) L (k + 1) = totN (qL L Q) L k + 1) := by unfold Hid; rw [HT1.out, hc0]
              rw [hc0]
              have HB := Lib.hid hb
              have HC0 := Lib.hid hc0
              clear hb hc0 hcl hcb
              go_wp2
              go_roundw
              case rel => exact ⟨k + 1, by omega, by go_num, by rw [HT2.out]; go_num, by rw [HT2.out]; omega, HK2.out⟩
              case measure => simp [intOf]; omega
      · have t3 : decide ((0 : Int) < (k : Int)) = true := by simp; omega
        have t3' : decide (0 < k) = true := by simp; omega
        have t4 : IntKind.i64.wrap ((k : Int) - 1) = (m : Int) := by rw [show (k : Int) - 1 = m by omega]; exact IntWalk.i64_in _ (by omega)
        have t5 : (k : Int) - 1 = (m : Int) := by omega
        have t6 : (0 : Int) ≤ m := by omega
        have t7 : (m : Int) < L.length := by omega
        have t8 : decide (y.f ≤ L[m].f) = false := by simp; omega
        have e0 := (cp_cells HLw.out hm).1
        have HH := Lib.hid h0
        clear h0
        go_wp2
        go_quiet (fail)
        go_wp2
        generalize hw9 : World.drewN wr nq = wo
        have HKo : Hid (Keep (fun _ => False) w4 wo) := by rw [← hw9]; exact HK.out.drewN _
        clear hw9 t1 t2 t3 t3' c0 c1
        go_loopw [10, 11] (fun n i w2 => ∃ j : Nat, j ≤ Q.length ∧ i = .int .i64 j ∧ n = .int .i64 (((qL L Q).take j).count y : Nat) ∧ Keep (fun _ => False) wo w2) (fun _ i _ => Q.length - (intOf i).toNat)
        case atStart => exact ⟨0, by omega, rfl, rfl, Keep.refl _ _⟩
        case round =>
          obtain ⟨j, hj, rfl, rfl, hkeep2⟩ := hrel
          have HK2 := Lib.hid (HKo.out.trans hkeep2)
          have HK2' := Lib.hid hkeep2
          clear hkeep2
          have hcj : ((qL L Q).take j).count y ≤ 1 := Nat.le_trans (List.Sublist.count_le _ (List.take_sublist _ _)) hcl
          have HLx := Lib.hid (HL.out.keep HK2.out (fun _ _ => id))
          obtain ⟨c0, c1⟩ := cp_cells HLx.out hlt
          rw [HY.out] at c0 c1
          by_cases hjl : j < Q.length
          · have hjl' : j < (qL L Q).length := by rw [hql]; exact hjl
            obtain ⟨g4, rfl⟩ := HAG4.out (by intro e; rw [e] at hjl'; simp at hjl')
            have HDx := Lib.hid (HO4.out.keep HK2.out (fun _ _ => id))
            obtain ⟨d0, d1⟩ := cp_cells HDx.out hjl'
            have hdm := List.getElem_mem hjl'
            have htk := List.take_succ_eq_append_getElem hjl'
            obtain ⟨d, hd⟩ : ∃ d, (qL L Q)[j] = d := ⟨_, rfl⟩
            rw [hd] at d0 d1 hdm htk
            clear hd
            by_cases hdy : d = y
            · subst hdy
              have HC : Hid (((qL L Q).take (j + 1)).count d = ((qL L Q).take j).count d + 1) := by unfold Hid; rw [htk, List.count_append]; simp
              have hc2 : ((qL L Q).take (j + 1)).count d ≤ 1 := Nat.le_trans (List.Sublist.count_le _ (List.take_sublist _ _)) hcl
              have HC2 := Lib.hid hc2
              clear htk hdm hc2
              go_wp2
              go_quiet (fail)
              go_wp2
              go_roundw
              case rel => exact ⟨j + 1, by omega, by go_num, by rw [HC.out]; go_num, HK2'.out.drewN _⟩
              case measure => simp [intOf]; omega
            · have hff : (d.f == y.f) = false := by have := hin.out d hdm hdy; simpa using this
              have HC : Hid (((qL L Q).take (j + 1)).count y = ((qL L Q).take j).count y) := by
                unfold Hid; rw [htk, List.count_append]
                have : (d == y) = false := by simpa using hdy
                simp [List.count_cons, this]
              have HDY := Lib.hid hdy
              clear htk hdm hdy
              go_wp2
              go_quiet (fail)
              go_wp2
              go_roundw
              case rel => exact ⟨j + 1, by omega, by go_num, by rw [HC.out], HK2'.out.drewN _⟩
              case measure => simp [intOf]; omega
          · obtain rfl : j = Q.length := by omega
            have htk : (qL L Q).take Q.length = qL L Q := List.take_of_length_le (by rw [hql]; exact Nat.le_refl _)
            have HTK := Lib.hid htk
            clear htk hcj
            rw [HTK.out]
            by_cases hb : y.b = 0
            · have hc0 : (qL L Q).count y = 0 := by rw [HCN.out, if_neg (by simpa using hb)]
              have hb' : ((y.b : Int) != 0) = false := by simpa using hb
              have HT2 : Hid (totN (qL L Q) L (k + 1) = totN (qL L Q) L k) := by unfold Hid; rw [HT1.out, hc0]; rfl
              rw [hc0]
              have HB := Lib.hid hb
              have HC0 := Lib.hid hc0
              clear hb hc0 hcl hcb
              go_wp2
              go_roundw
              case rel => exact ⟨k + 1, by omega, by go_num, by rw [HT2.out], by rw [HT2.out]; omega, HK2.out⟩
              case measure => simp [intOf]; omega
            · have hc0 : (qL L Q).count y = 1 := by rw [HCN.out, if_pos hb]
              have hb' : ((y.b : Int) != 0) = true := by simpa using hb
              have HT2 : Hid (totN (qL L Q) L (k + 1) = totN (qL L Q) L k + 1) := by unfold Hid; rw [HT1.out, hc0]
              rw [hc0]
              have HB := Lib.hid hb
              have HC0 := Lib.hid hc0
              clear hb hc0 hcl hcb
              go_wp2
              go_roundw
              case rel => exact ⟨k + 1, by omega, by go_num, by rw [HT2.out]; go_num, by rw [HT2.out]; omega, HK2.out⟩
              case measure => simp [intOf]; omega
    · obtain rfl : k = L.length := by omega
      have htot := HV.out.iv.tot
      have HTT := Lib.hid htot
      clear htot
      have hee : (((totN (qL L Q) L L.length : Nat) : Int) == (Q.length : Int)) = true := by rw [HTT.out, hql]; simp
      go_wp2
      go_ret
      exact ⟨rfl, (HK4.out.trans HK.out).below⟩

end Go.Proofs.Ytdomdjfecnbenaa
