/- CompoundRegains: the plain law and the walk. -/
import Derived.Test.YtdomdjfecnbenaaAJ
import Derived.Test.YtdomdjfecnbenaaAK
set_option linter.unusedVariables false
set_option linter.unusedSimpArgs false
namespace Go.Proofs.Ytdomdjfecnbenaa
open Go.RowKit Go.Own

theorem same_any (B C : Nat) (v u : Value) (X : List Cp) (w : World) (hv : OwnL cpE w B 39 v X) (hu : OwnL cpE w C 39 u X) (hl : X.length ≤ 1000000) :
    Calls Try.prog 20 #[v, u] w fun e w' => e = .returned (.bool true) ∧ Keep (fun _ => False) w w' := by
  obtain ⟨a1, c1, rfl, hag1⟩ := hv.slice
  obtain ⟨a2, c2, rfl, hag2⟩ := hu.slice
  have HAG1 := Lib.hid hag1
  have HAG2 := Lib.hid hag2
  clear hag1 hag2
  go_enter Try.func20, Try.ntmps20
  go_wp2
  go_loopw [5] (fun i wr => ∃ k : Nat, k ≤ X.length ∧ i = .int .i64 k ∧ Keep (fun _ => False) w wr) (fun i _ => X.length - (intOf i).toNat)
  case atStart => exact ⟨0, by omega, rfl, Keep.refl _ _⟩
  case round =>
    obtain ⟨k, hk, rfl, hkeep⟩ := hrel
    have HK := Lib.hid hkeep
    clear hkeep
    by_cases hlt : k < X.length
    · obtain ⟨g, rfl⟩ := HAG1.out (by intro e; rw [e] at hlt; simp at hlt)
      obtain ⟨g2, rfl⟩ := HAG2.out (by intro e; rw [e] at hlt; simp at hlt)
      obtain ⟨c0, c1⟩ := cp_cells (hv.keep HK.out (fun _ _ => id)) hlt
      obtain ⟨d0, d1⟩ := cp_cells (hu.keep HK.out (fun _ _ => id)) hlt
      go_wp2
      go_quiet (fail)
      go_wp2
      go_roundw
      case rel => exact ⟨k + 1, by omega, by go_num, HK.out.drewN _⟩
      case measure => simp [intOf]; omega
    · go_wp2
      go_ret
      exact ⟨rfl, HK.out⟩

theorem perm_of_mem {α : Type} [BEq α] [LawfulBEq α] {A B : List α} (ha : A.Nodup) (hb : B.Nodup) (h : ∀ x, x ∈ A ↔ x ∈ B) : A.Perm B := by
  rw [List.perm_iff_count]
  intro x
  have h1 := List.nodup_iff_count.mp ha x
  have h2 := List.nodup_iff_count.mp hb x
  by_cases hx : x ∈ A
  · have h3 := List.count_pos_iff.mpr hx
    have h4 := List.count_pos_iff.mpr ((h x).mp hx)
    omega
  · rw [List.count_eq_zero.mpr hx, List.count_eq_zero.mpr (fun h' => hx ((h x).mpr h'))]

theorem Inv.requeue {L : List Cp} {Q Q' : List Int} {X : List On} {T : Int} (h : Inv L Q X T) (hn : Q'.Nodup) (hm : ∀ g, g ∈ Q' ↔ g ∈ Q) : Inv L Q' X T :=
  ⟨h.pm, h.so, h.fr, hn, fun f => by rw [hm]; exact h.qm f, h.si, h.t0⟩
/-- As many are in the queue as the reference tells. -/
theorem Inv.sn_len {L : List Cp} {Q : List Int} {X : List On} {T : Int} (h : Inv L Q X T) : sn X 1 (T + 1) = Q.length := by
  have h1 : sn X 1 (T + 1) = (X.filter fun x => decide (x.b ≠ 0)).length := by
    unfold sn
    congr 1
    apply List.filter_congr
    intro x hx
    have := h.si x hx
    rw [decide_eq_decide]
    constructor
    · intro h2 e; have := this.1 e; omega
    · intro h2; have := this.2 h2; omega
  have h2 : (X.filter fun x => decide (x.b ≠ 0)).length = ((X.map On.cp).filter fun c => decide (c.b ≠ 0)).length := by
    rw [List.filter_map, List.length_map]; rfl
  have h3 := (h.pm.filter fun c => decide (c.b ≠ 0)).length_eq
  have h4 : (qL L Q).Perm (L.filter fun c => decide (c.b ≠ 0)) := perm_of_mem h.nodup_q ((so_nodup h.so).sublist List.filter_sublist) fun c => by
    rw [h.mem_q, List.mem_filter, decide_eq_true_eq]
  have h5 := h4.length_eq
  rw [qL_len] at h5
  omega

theorem whN_congr {L M : List Cp} (g : Int) (h : ∀ i, (L.getD i ⟨0, 0⟩).f = (M.getD i ⟨0, 0⟩).f) : ∀ n i, whN L g i n = whN M g i n := by
  intro n
  induction n with
  | zero => intro i; rfl
  | succ n ih => intro i; simp only [whN]; rw [h, ih]
theorem whI_set (L : List Cp) {k : Nat} (hk : k < L.length) (b : Nat) (g : Int) : whI (L.set k ⟨L[k].f, b⟩) g = whI L g := by
  unfold whI
  rw [List.length_set]
  refine whN_congr g (fun i => ?_) _ _
  by_cases e : i = k
  · subst e; simp [hk]
  · rw [List.getD_eq_getElem?_getD, List.getD_eq_getElem?_getD, List.getElem?_set_ne (fun h => e h.symm)]

theorem or_and : ∀ b : Fin 256, ∀ j : Fin 8, b.val &&& 2 ^ j.val = 0 → (b.val ||| 2 ^ j.val) &&& (255 - 2 ^ j.val) = b.val := by decide +kernel
theorem or_bit : ∀ b : Fin 256, ∀ j : Fin 8, (b.val ||| 2 ^ j.val) &&& 2 ^ j.val ≠ 0 := by decide +kernel
theorem pc_seven : ∀ b : Fin 256, ∀ j : Fin 8, b.val &&& 2 ^ j.val = 0 → b.val ||| 2 ^ j.val = 255 → pcN b.val 8 = 7 := by decide +kernel

set_option maxRecDepth 100000 in
set_option maxHeartbeats 4000000 in
theorem regains_walk (la : Option Addr) (l c : Nat) (f : Int) (hf : f < 9223372036854775808) (w : World) (hr : RowsAt w la l [.int .i64, .int .i64]) :
    Calls Try.prog 6 #[.slice la l c, .int .i64 f] w fun e w' => e = .returned (.bool true) ∧ Below w.heap.size w w' := by
  obtain ⟨A, rfl, hA⟩ := acts2_of_rows hr
  have H1 := Lib.hid hA
  have HFF := Lib.hid hf
  clear hA hr hf
  go_enter Try.func6, Try.ntmps6
  go_wp2_with (first | (go_at_call 13; refine (made_any la A c _ H1.out).mono ?_; rintro e w1 ⟨p, q, rfl, hT, hk1⟩; have HT := Lib.hid hT; have HK1 := Lib.hid hk1; clear hT hk1) | (go_at_call 9; refine (awake_any _).mono ?_; rintro e w2 ⟨rfl, hk2⟩; have HT2 := Lib.hid (HT.out.keep0 hk2); have HK2 := Lib.hid (HK1.out.trans hk2); clear hk2))
  obtain ⟨v, u, vx, L, Q, X, T, hV⟩ := HT2.out
  have hll := hV.ll
  have hlq := hV.lq
  have hlt := hV.lt
  refine (all_any w.heap.size p v u L Q _ hV.rc).mono ?_
  rintro e w3 ⟨v3, rfl, hO3, hk3⟩
  have HV := Lib.hid (hV.keep0 hk3)
  have HO3 := Lib.hid hO3
  have HVB : Hid ((∀ x, v.ownBlock = some x → x < w2.heap.size) ∧ p < w2.heap.size) := ⟨fun x hx => (hV.rc.hv.lt x hx).2, block_lt hV.rc.hp⟩
  have HK3 := Lib.hid (HK2.out.trans hk3)
  clear hV hO3 hk3
  obtain ⟨a3, c3, rfl, hag3⟩ := HO3.out.slice
  clear hag3
  go_wp2_with fail
  refine (at_any w.heap.size q vx X T f _ HV.out.rx).mono ?_
  have hfind := HV.out.iv.find f
  rcases hfind with ⟨h1, h2⟩ | ⟨k, i, x, rfl, hx, h1, h1', h2, hk, hi, he, hfd, hX1, hX2⟩
  · rw [h2]
    rintro e w4 ⟨rfl, rfl⟩
    have HN := Lib.hid h1
    clear h1 h2
    go_wp2_with fail
    refine (lose_none w.heap.size p v u L Q f HFF.out _ HV.out.rc HN.out).mono ?_
    rintro e w5 ⟨rfl, hk5⟩
    have HV5 := Lib.hid (HV.out.keep0 hk5)
    have HO5 := Lib.hid (HO3.out.keep hk5 (fun _ _ => id))
    have HK5 := Lib.hid (HK3.out.trans hk5)
    clear hk5
    go_wp2_with fail
    refine (all_any w.heap.size p v u L Q _ HV5.out.rc).mono ?_
    rintro e w6 ⟨v6, rfl, hO6, hk6⟩
    have HO6 := Lib.hid hO6
    have HO56 := Lib.hid (HO5.out.keep hk6 (fun _ _ => id))
    have HK6 := Lib.hid (HK5.out.trans hk6)
    obtain ⟨a6, c6, rfl, -⟩ := hO6.slice
    clear hk6 hO6
    go_wp2_with fail
    refine (same_any _ _ _ _ L _ HO56.out HO6.out (by omega)).mono ?_
    rintro e w7 ⟨rfl, hk7⟩
    go_wp2
    go_ret
    exact ⟨rfl, (HK6.out.trans hk7).below⟩
  · rw [h2]
    have hj : x % 8 < 8 := Nat.mod_lt _ (by decide)
    have eb : X[i].b = L[k].b := by rw [← he]; rfl
    have hb6 := HV.out.rc.hb _ (List.getElem_mem hk)
    have HW := Lib.hid h1
    have HE := Lib.hid he
    have HEB := Lib.hid eb
    have hi0 : (0 : Int) ≤ i := by omega
    clear h1 h1' h2 he hfd hX1 hX2 eb
    rintro e w4 ⟨rfl, rfl⟩
    by_cases hbit : L[k].b &&& 2 ^ (x % 8) = 0
    · have HBZ := Lib.hid hbit
      have HB1 := Lib.hid (or_bit ⟨_, hb6⟩ ⟨_, hj⟩)
      have HB2 := Lib.hid (or_and ⟨_, hb6⟩ ⟨_, hj⟩ hbit)
      by_cases h0 : L[k].b = 0
      · have H0 := Lib.hid h0
        go_wp2_with fail
        refine (lose_first w.heap.size p v u L Q x k hx _ HK3.out.size HV.out.rc HW.out hk h0 (by omega)).mono ?_
        clear h0 hbit
        rintro e w5 ⟨u5, rfl, hR5, hk5, -⟩
        have HX5 := Lib.hid (HV.out.rx.past HV.out.rc hk5)
        have hR5' : RepC w5 w.heap.size p v u5 (L.set k ⟨L[k].f, L[k].b ||| 2 ^ (x % 8)⟩) (Q ++ [L[k].f]) := by rw [H0.out, Nat.zero_or]; exact hR5
        obtain ⟨Q5, hQ5⟩ : ∃ Q5, Q ++ [L[k].f] = Q5 := ⟨_, rfl⟩
        have HQ5 : Hid (Q5.Nodup ∧ ∀ g, g ∈ Q5 ↔ g ∈ Q ∨ g = L[k].f) := by
          have hnq : L[k].f ∉ Q := fun hm => (HV.out.iv.memQ hk).mp hm H0.out
          rw [← hQ5]
          refine ⟨?_, fun g => by rw [List.mem_append, List.mem_singleton]⟩
          rw [List.nodup_append]
          exact ⟨HV.out.iv.qn, by simp, fun a ha b hb => by simp at hb; subst hb; exact fun e => hnq (e ▸ ha)⟩
        rw [hQ5] at hR5'
        have HR5 := Lib.hid hR5'
        have HV5 : Hid (∀ z, v.ownBlock = some z → v.ownBlock = some z ∨ w3.heap.size ≤ z) := fun _ h => .inl h
        have HO5 := Lib.hid (HO3.out.keep hk5 (fun z hz => by
          have h3 := (HO3.out.lt z hz).1
          rintro (e | e)
          · have := HVB.out.2; omega
          · have := HVB.out.1 z e; omega))
        have HK5 := Lib.hid ((KB.of (B := w.heap.size) HK3.out).trans (HV.out.rc.ge HV.out.bp hk5))
        clear hR5 hR5' hk5 hQ5
        go_wp2_with fail
        have hsz5 := HK5.out.size
        refine (regain_yes w.heap.size p _ _ _ Q5 x k hx _ (by omega) HR5.out (by rw [whI_set L hk]; exact HW.out) (by rw [List.length_set]; exact hk) (by simp only [List.getElem_set_self]; exact HB1.out)).mono ?_
        rintro e w6 ⟨rfl, u6, hR6, hk6, -⟩
        have hL6 : Hid ((L.set k ⟨L[k].f, L[k].b ||| 2 ^ (x % 8)⟩).set k ⟨((L.set k ⟨L[k].f, L[k].b ||| 2 ^ (x % 8)⟩)[k]'(by rw [List.length_set]; exact hk)).f, ((L.set k ⟨L[k].f, L[k].b ||| 2 ^ (x % 8)⟩)[k]'(by rw [List.length_set]; exact hk)).b &&& (255 - 2 ^ (x % 8))⟩ = L) := by
          unfold Hid
          simp only [List.getElem_set_self, List.set_set]
          rw [HB2.out]
          exact List.set_getElem_self hk
        rw [hL6.out] at hR6
        have HR6 := Lib.hid hR6
        have HX6 := Lib.hid (HX5.out.past HR5.out hk6)
        have HO6 := Lib.hid (HO5.out.keep hk6 (fun z hz => by
          have h3 := (HO3.out.lt z hz).1
          rintro (e | e)
          · have := HVB.out.2; omega
          · rcases HV5.out z e with e | e
            · have := HVB.out.1 z e; omega
            · have := (HO3.out.lt z hz).2; omega))
        have HQ6 : Hid ((rgQ (L.set k ⟨L[k].f, L[k].b ||| 2 ^ (x % 8)⟩) Q5 k x).Nodup ∧ ∀ g, g ∈ rgQ (L.set k ⟨L[k].f, L[k].b ||| 2 ^ (x % 8)⟩) Q5 k x ↔ g ∈ Q) := by
          unfold Hid rgQ
          have hgd : (L.set k ⟨L[k].f, L[k].b ||| 2 ^ (x % 8)⟩).getD k ⟨0, 0⟩ = ⟨L[k].f, L[k].b ||| 2 ^ (x % 8)⟩ := by simp [hk]
          rw [hgd]
          simp only [HB2.out]
          rw [if_pos (by rw [H0.out])]
          refine ⟨nodup_lvQ HQ5.out.1 _, fun g => ?_⟩
          rw [mem_lvQ HQ5.out.1, HQ5.out.2]
          have hnq : L[k].f ∉ Q := fun hm => (HV.out.iv.memQ hk).mp hm H0.out
          constructor
          · rintro ⟨h | h, h2⟩
            · exact h
            · exact absurd h h2
          · intro h
            exact ⟨.inl h, fun e => hnq (e ▸ h)⟩
        have HI6 := Lib.hid (HV.out.iv.requeue HQ6.out.1 HQ6.out.2)
        generalize rgQ (L.set k ⟨L[k].f, L[k].b ||| 2 ^ (x % 8)⟩) Q5 k x = Q6 at HR6 HI6
        have HK6 := Lib.hid (HK5.out.trans (HR5.out.ge HV.out.bp hk6))
        clear hk6 hR6 hL6 HQ6
        go_wp2_with fail
        refine (regain_no w.heap.size p _ u6 L Q6 x k hx _ HR6.out HW.out hk HBZ.out).mono ?_
        rintro e w7 ⟨rfl, hk7⟩
        have HR7 := Lib.hid (HR6.out.keep0 hk7)
        have HX7 := Lib.hid (HX6.out.keep0 hk7)
        have HO7 := Lib.hid (HO6.out.keep hk7 (fun _ _ => id))
        have HK7 := Lib.hid (HK6.out.trans (KB.of hk7))
        clear hk7
        go_wp2_with fail
        refine (all_any w.heap.size p _ u6 L Q6 _ HR7.out).mono ?_
        rintro e w8 ⟨v8, rfl, hO8, hk8⟩
        have HO8 := Lib.hid hO8
        have HO78 := Lib.hid (HO7.out.keep hk8 (fun _ _ => id))
        have HR8 := Lib.hid (HR7.out.keep0 hk8)
        have HX8 := Lib.hid (HX7.out.keep0 hk8)
        have HK8 := Lib.hid (HK7.out.trans (KB.of hk8))
        obtain ⟨a8, c8, rfl, -⟩ := hO8.slice
        clear hk8 hO8
        go_wp2_with fail
        refine (same_any _ _ _ _ L _ HO78.out HO8.out (by omega)).mono ?_
        rintro e w9 ⟨rfl, hk9⟩
        have HR9 := Lib.hid (HR8.out.keep0 hk9)
        have HX9 := Lib.hid (HX8.out.keep0 hk9)
        have HK9 := Lib.hid (HK8.out.trans (KB.of hk9))
        clear hk9
        go_wp2_with fail
        refine (queue_any w.heap.size p _ u6 L Q6 _ HR9.out HI6.out.qok').mono ?_
        rintro e w10 ⟨v10, rfl, hO10, hk10⟩
        have HX10 := Lib.hid (HX9.out.keep0 hk10)
        have HK10 := Lib.hid (HK9.out.trans (KB.of hk10))
        obtain ⟨a10, c10, rfl, -⟩ := hO10.slice
        rw [qL_len]
        clear hk10 hO10
        go_wp2_with fail
        have hXl : X.length ≤ 100 := by have := HV.out.iv.pm.length_eq; rw [List.length_map] at this; omega
        refine (queueX_any w.heap.size q vx X T _ HX10.out hXl (by omega)).mono ?_
        rintro e w11 ⟨v11, D, rfl, hO11, hD, hk11⟩
        rw [HI6.out.sn_len] at hD
        obtain ⟨a11, c11, rfl, -⟩ := hO11.slice
        rw [hD]
        have HK11 := Lib.hid (HK10.out.trans (KB.of hk11))
        clear hk11 hO11 hD
        go_wp2
        go_ret
        exact ⟨rfl, (KB.fresh (Keep.refl _ _) HK11.out).below⟩
      · have H0 := Lib.hid h0
        obtain hwh | hwh := Decidable.em (L[k].b ||| 2 ^ (x % 8) = 255)
        · go_wp2_with fail
          refine (lose_more w.heap.size p v u L Q x k hx _ HK3.out.size HV.out.rc HW.out hk hbit h0).mono ?_
          rintro e w5 ⟨v5, u5, L5, Q5, whole, rfl, hL, hR5, hk5, -, -⟩
          obtain ⟨rfl, rfl, rfl⟩ := hL.a hwh
          have HX5 := Lib.hid (HV.out.rx.past HV.out.rc hk5)
          have HK5 := Lib.hid ((KB.of (B := w.heap.size) HK3.out).trans (HV.out.rc.ge HV.out.bp hk5))
          have hp7 : Hid (pcN X[i].b 8 = 7) := by unfold Hid; rw [HEB.out]; exact pc_seven ⟨_, hb6⟩ ⟨_, hj⟩ hbit hwh
          clear hL hR5 hk5 hwh hbit h0
          obtain ⟨gx, capx, rfl, -⟩ := HX5.out.hv.form (by intro e; rw [e] at hi; simp at hi)
          have hXl : X.length ≤ 200 := HX5.out.hl
          have e3 := HX5.out.c0
          obtain ⟨e0, e1, e2⟩ := on_cells HX5.out.hv hi
          have hbo := HX5.out.hb _ (List.getElem_mem hi)
          unfold On.v at hbo
          have HBO := Lib.hid hbo
          clear hbo
          go_wp2_with fail
          refine (many_any _ _ _ _ _ _ _ HBO.out).mono ?_
          rw [hp7.out]
          rintro e w6 ⟨rfl, hk6⟩
          go_wp2
          go_ret
          exact ⟨rfl, (KB.fresh (Keep.refl _ _) (HK5.out.trans (KB.of hk6))).below⟩
        · go_wp2_with fail
          refine (lose_more w.heap.size p v u L Q x k hx _ HK3.out.size HV.out.rc HW.out hk hbit h0).mono ?_
          rintro e w5 ⟨v5, u5, L5, Q5, whole, rfl, hL, hR5, hk5, hv5, -⟩
          obtain ⟨rfl, rfl, hQ5⟩ := hL.b hwh
          rw [if_neg h0] at hQ5
          have HX5 := Lib.hid (HV.out.rx.past HV.out.rc hk5)
          have HR5 := Lib.hid hR5
          have HQ5 : Hid (Q5.Nodup ∧ ∀ g, g ∈ Q5 ↔ g ∈ Q) := by rw [hQ5]; exact ⟨HV.out.iv.qn, fun _ => Iff.rfl⟩
          have HV5 := Lib.hid hv5
          have HO5 := Lib.hid (HO3.out.keep hk5 (fun z hz => by
            have h3 := (HO3.out.lt z hz).1
            rintro (e | e)
            · have := HVB.out.2; omega
            · have := HVB.out.1 z e; omega))
          have HK5 := Lib.hid ((KB.of (B := w.heap.size) HK3.out).trans (HV.out.rc.ge HV.out.bp hk5))
          clear hL hR5 hk5 hv5 hwh hbit h0 hQ5
          go_wp2_with fail
          have hsz5 := HK5.out.size
          refine (regain_yes w.heap.size p _ _ _ Q5 x k hx _ (by omega) HR5.out (by rw [whI_set L hk]; exact HW.out) (by rw [List.length_set]; exact hk) (by simp only [List.getElem_set_self]; exact HB1.out)).mono ?_
          rintro e w6 ⟨rfl, u6, hR6, hk6, -⟩
          have hL6 : Hid ((L.set k ⟨L[k].f, L[k].b ||| 2 ^ (x % 8)⟩).set k ⟨((L.set k ⟨L[k].f, L[k].b ||| 2 ^ (x % 8)⟩)[k]'(by rw [List.length_set]; exact hk)).f, ((L.set k ⟨L[k].f, L[k].b ||| 2 ^ (x % 8)⟩)[k]'(by rw [List.length_set]; exact hk)).b &&& (255 - 2 ^ (x % 8))⟩ = L) := by
            unfold Hid
            simp only [List.getElem_set_self, List.set_set]
            rw [HB2.out]
            exact List.set_getElem_self hk
          rw [hL6.out] at hR6
          have HR6 := Lib.hid hR6
          have HX6 := Lib.hid (HX5.out.past HR5.out hk6)
          have HO6 := Lib.hid (HO5.out.keep hk6 (fun z hz => by
            have h3 := (HO3.out.lt z hz).1
            rintro (e | e)
            · have := HVB.out.2; omega
            · rcases HV5.out z e with e | e
              · have := HVB.out.1 z e; omega
              · have := (HO3.out.lt z hz).2; omega))
          have HQ6 : Hid ((rgQ (L.set k ⟨L[k].f, L[k].b ||| 2 ^ (x % 8)⟩) Q5 k x).Nodup ∧ ∀ g, g ∈ rgQ (L.set k ⟨L[k].f, L[k].b ||| 2 ^ (x % 8)⟩) Q5 k x ↔ g ∈ Q) := by
            unfold Hid rgQ
            have hgd : (L.set k ⟨L[k].f, L[k].b ||| 2 ^ (x % 8)⟩).getD k ⟨0, 0⟩ = ⟨L[k].f, L[k].b ||| 2 ^ (x % 8)⟩ := by simp [hk]
            rw [hgd]
            simp only [HB2.out]
            rw [if_neg H0.out]
            exact ⟨HQ5.out.1, HQ5.out.2⟩
          have HI6 := Lib.hid (HV.out.iv.requeue HQ6.out.1 HQ6.out.2)
          generalize rgQ (L.set k ⟨L[k].f, L[k].b ||| 2 ^ (x % 8)⟩) Q5 k x = Q6 at HR6 HI6
          have HK6 := Lib.hid (HK5.out.trans (HR5.out.ge HV.out.bp hk6))
          clear hk6 hR6 hL6 HQ6
          go_wp2_with fail
          refine (regain_no w.heap.size p _ u6 L Q6 x k hx _ HR6.out HW.out hk HBZ.out).mono ?_
          rintro e w7 ⟨rfl, hk7⟩
          have HR7 := Lib.hid (HR6.out.keep0 hk7)
          have HX7 := Lib.hid (HX6.out.keep0 hk7)
          have HO7 := Lib.hid (HO6.out.keep hk7 (fun _ _ => id))
          have HK7 := Lib.hid (HK6.out.trans (KB.of hk7))
          clear hk7
          go_wp2_with fail
          refine (all_any w.heap.size p _ u6 L Q6 _ HR7.out).mono ?_
          rintro e w8 ⟨v8, rfl, hO8, hk8⟩
          have HO8 := Lib.hid hO8
          have HO78 := Lib.hid (HO7.out.keep hk8 (fun _ _ => id))
          have HR8 := Lib.hid (HR7.out.keep0 hk8)
          have HX8 := Lib.hid (HX7.out.keep0 hk8)
          have HK8 := Lib.hid (HK7.out.trans (KB.of hk8))
          obtain ⟨a8, c8, rfl, -⟩ := hO8.slice
          clear hk8 hO8
          go_wp2_with fail
          refine (same_any _ _ _ _ L _ HO78.out HO8.out (by omega)).mono ?_
          rintro e w9 ⟨rfl, hk9⟩
          have HR9 := Lib.hid (HR8.out.keep0 hk9)
          have HX9 := Lib.hid (HX8.out.keep0 hk9)
          have HK9 := Lib.hid (HK8.out.trans (KB.of hk9))
          clear hk9
          go_wp2_with fail
          refine (queue_any w.heap.size p _ u6 L Q6 _ HR9.out HI6.out.qok').mono ?_
          rintro e w10 ⟨v10, rfl, hO10, hk10⟩
          have HX10 := Lib.hid (HX9.out.keep0 hk10)
          have HK10 := Lib.hid (HK9.out.trans (KB.of hk10))
          obtain ⟨a10, c10, rfl, -⟩ := hO10.slice
          rw [qL_len]
          clear hk10 hO10
          go_wp2_with fail
          have hXl : X.length ≤ 100 := by have := HV.out.iv.pm.length_eq; rw [List.length_map] at this; omega
          refine (queueX_any w.heap.size q vx X T _ HX10.out hXl (by omega)).mono ?_
          rintro e w11 ⟨v11, D, rfl, hO11, hD, hk11⟩
          rw [HI6.out.sn_len] at hD
          obtain ⟨a11, c11, rfl, -⟩ := hO11.slice
          rw [hD]
          have HK11 := Lib.hid (HK10.out.trans (KB.of hk11))
          clear hk11 hO11 hD
          go_wp2
          go_ret
          exact ⟨rfl, (KB.fresh (Keep.refl _ _) HK11.out).below⟩
    · go_wp2_with fail
      refine (lose_dup w.heap.size p v u L Q x k hx _ HV.out.rc HW.out hk hbit).mono ?_
      clear hbit
      rintro e w5 ⟨rfl, hk5⟩
      have HV5 := Lib.hid (HV.out.keep0 hk5)
      have HO5 := Lib.hid (HO3.out.keep hk5 (fun _ _ => id))
      have HK5 := Lib.hid (HK3.out.trans hk5)
      clear hk5
      go_wp2_with fail
      refine (all_any w.heap.size p v u L Q _ HV5.out.rc).mono ?_
      rintro e w6 ⟨v6, rfl, hO6, hk6⟩
      have HO6 := Lib.hid hO6
      have HO56 := Lib.hid (HO5.out.keep hk6 (fun _ _ => id))
      have HK6 := Lib.hid (HK5.out.trans hk6)
      obtain ⟨a6, c6, rfl, -⟩ := hO6.slice
      clear hk6 hO6
      go_wp2_with fail
      refine (same_any _ _ _ _ L _ HO56.out HO6.out (by omega)).mono ?_
      rintro e w7 ⟨rfl, hk7⟩
      go_wp2
      go_ret
      exact ⟨rfl, (HK6.out.trans hk7).below⟩

end Go.Proofs.Ytdomdjfecnbenaa
