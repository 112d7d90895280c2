/- Gather: the reference's Take. -/
import Derived.Test.YtibcfglfcoljgaaAE
set_option linter.unusedVariables false
set_option linter.unusedSimpArgs false
namespace Go.Proofs.Ytibcfglfcoljgaa
open Go.RowKit Go.Own

/-- What the reference's Take holds: what is left, what is told. -/
structure TkI (P L : List Sp) (D : List Fl) : Prop where
  can : Can D
  nd : L.Nodup
  bef : ∀ x, x ∈ D → ∀ y, y ∈ L → x.s < y.s ∨ (x.s = y.s ∧ x.p + x.n ≤ y.p)
  cv : ∀ s q, (⟨s, q⟩ : Sp) ∈ P ↔ (⟨s, q⟩ : Sp) ∈ L ∨ cov D s q
  ran : ∀ x, x ∈ P → 0 ≤ x.s ∧ 0 ≤ x.p ∧ x.p < 4096
  len : D.length + L.length ≤ P.length
def rm (L : List Sp) (k : Nat) : List Sp := L.take k ++ L.drop (k + 1)
theorem rm_mem {L : List Sp} {k : Nat} (hk : k < L.length) (hn : L.Nodup) (x : Sp) : x ∈ rm L k ↔ x ∈ L ∧ x ≠ L[k] := by
  have e : L = L.take k ++ (L[k] :: L.drop (k + 1)) := by rw [← List.drop_eq_getElem_cons hk, List.take_append_drop]
  have h1 : x ∈ L ↔ x ∈ L.take k ∨ x = L[k] ∨ x ∈ L.drop (k + 1) := by
    conv => lhs; rw [e]
    rw [List.mem_append, List.mem_cons]
  have hn' : (L.take k ++ (L[k] :: L.drop (k + 1))).Nodup := e ▸ hn
  rw [List.nodup_append, List.nodup_cons] at hn'
  obtain ⟨_, ⟨h3, _⟩, h4⟩ := hn'
  unfold rm
  rw [List.mem_append, h1]
  constructor
  · rintro (h | h)
    · exact ⟨.inl h, h4 x h _ (List.mem_cons_self ..)⟩
    · exact ⟨.inr (.inr h), fun e => h3 (e ▸ h)⟩
  · rintro ⟨h | h | h, h'⟩
    · exact .inl h
    · exact absurd h h'
    · exact .inr h
theorem rm_nodup {L : List Sp} {k : Nat} (hk : k < L.length) (hn : L.Nodup) : (rm L k).Nodup := by
  have e : L = L.take k ++ (L[k] :: L.drop (k + 1)) := by rw [← List.drop_eq_getElem_cons hk, List.take_append_drop]
  refine hn.sublist ?_
  conv => rhs; rw [e]
  exact List.Sublist.append (List.Sublist.refl _) (List.sublist_cons_self _ _)
theorem rm_own {w : World} {A B k : Nat} {v : Value} {L : List Sp} (hB : B ≤ A) (hk : k < L.length) (h : w.ownsRow A 42 spE.k v (0 + k + (L.length - (k + 1))) ([] ++ spE.cs (L.take k) ++ spE.cs (L.drop (k + 1)))) : OwnL spE w B 42 v (rm L k) := by
  have h2 : OwnL spE w A 42 v (rm L k) := by
    unfold OwnL
    have e : (rm L k).length = 0 + k + (L.length - (k + 1)) := by simp [rm]; omega
    rw [e]
    unfold rm
    rw [spE.cs_append]
    simpa using h
  exact h2.base fun x hx => Nat.le_trans hB (h2.lt x hx).1
theorem rm_length {L : List Sp} {k : Nat} (hk : k < L.length) : (rm L k).length = L.length - 1 := by simp [rm]; omega
theorem TkI.least {P L : List Sp} {D : List Fl} {k : Nat} (h : TkI P L D) (hk : k < L.length) (hm : ∀ j (hj : j < L.length), leS L[k] L[j]) : ∀ y, y ∈ rm L k → L[k].s < y.s ∨ (L[k].s = y.s ∧ L[k].p + 1 ≤ y.p) := by
  intro y hy
  rw [rm_mem hk h.nd] at hy
  obtain ⟨hy, hne⟩ := hy
  obtain ⟨j, hj, rfl⟩ := List.getElem_of_mem hy
  have h1 := hm j hj
  unfold leS at h1
  by_cases e : L[k].s = L[j].s ∧ L[k].p = L[j].p
  · exact absurd (by cases h2 : L[j]; cases h3 : L[k]; rw [h2, h3] at e; simp only at e; rw [e.1, e.2]) hne
  · omega
theorem TkI.mem {P L : List Sp} {D : List Fl} (h : TkI P L D) {x : Sp} (hx : x ∈ L) : x ∈ P := (h.cv x.s x.p).mpr (.inl hx)
theorem TkI.new {P L : List Sp} {D : List Fl} {k : Nat} (h : TkI P L D) (hk : k < L.length) (hm : ∀ j (hj : j < L.length), leS L[k] L[j])
    (hs : D = [] ∨ ∃ E d, D = E ++ [d] ∧ ¬ (d.s = L[k].s ∧ d.p + d.n = L[k].p)) : TkI P (rm L k) (D ++ [⟨L[k].s, L[k].p, 1⟩]) := by
  have hl := h.least hk hm
  have hx := List.getElem_mem hk
  have hr := h.ran _ (h.mem hx)
  have hmem := rm_mem hk h.nd
  have hb : ∀ a, a ∈ D → befF a ⟨L[k].s, L[k].p, 1⟩ := by
    intro a ha
    rcases hs with rfl | ⟨E, d, rfl, hne⟩
    · cases ha
    · have hbd := h.bef d (by simp) _ hx
      have hfd := h.can.fi d (by simp)
      have hfa := h.can.fi a ha
      unfold fine at hfd hfa
      rcases List.mem_append.mp ha with ha | ha
      · have h2 := (List.pairwise_append.mp h.can.or).2.2 a ha d (by simp)
        unfold befF at h2 ⊢
        simp only
        omega
      · simp only [List.mem_singleton] at ha
        subst ha
        unfold befF
        simp only
        omega
  generalize L[k] = x at *
  refine ⟨⟨fun y hy => ?_, ?_⟩, rm_nodup hk h.nd, fun a ha y hy => ?_, fun s q => ?_, h.ran, by have := h.len; rw [rm_length hk]; simp; omega⟩
  · rcases List.mem_append.mp hy with hy | hy
    · exact h.can.fi y hy
    · simp only [List.mem_singleton] at hy
      subst hy
      unfold fine
      simp only
      omega
  · rw [List.pairwise_append]
    exact ⟨h.can.or, List.pairwise_singleton _ _, fun a ha b hb' => by simp only [List.mem_singleton] at hb'; subst hb'; exact hb a ha⟩
  · rcases List.mem_append.mp ha with ha | ha
    · exact h.bef a ha y ((hmem y).mp hy).1
    · simp only [List.mem_singleton] at ha
      subst ha
      exact hl y hy
  · rw [h.cv, hmem, cov_app, cov_one]
    unfold inF
    simp only
    constructor
    · rintro (h1 | h1)
      · by_cases e : (⟨s, q⟩ : Sp) = x
        · right; right; have e1 := congrArg Sp.s e; have e2 := congrArg Sp.p e; simp only at e1 e2; omega
        · exact .inl ⟨h1, e⟩
      · exact .inr (.inl h1)
    · rintro (h1 | h1 | h1)
      · exact .inl h1.1
      · exact .inr h1
      · left
        have : (⟨s, q⟩ : Sp) = x := by cases x; simp only at h1; rw [h1.1]; congr 1; omega
        rw [this]; exact hx
theorem TkI.grow {P L : List Sp} {E : List Fl} {d : Fl} {k : Nat} (h : TkI P L (E ++ [d])) (hk : k < L.length) (hm : ∀ j (hj : j < L.length), leS L[k] L[j]) (h1 : d.s = L[k].s) (h2 : d.p + d.n = L[k].p) :
    TkI P (rm L k) (E ++ [⟨d.s, d.p, d.n + 1⟩]) := by
  have hl := h.least hk hm
  have hx := List.getElem_mem hk
  have hr := h.ran _ (h.mem hx)
  have hmem := rm_mem hk h.nd
  have hfd := h.can.fi d (by simp)
  have hpw := List.pairwise_append.mp h.can.or
  generalize L[k] = x at *
  unfold fine at hfd
  refine ⟨⟨fun y hy => ?_, ?_⟩, rm_nodup hk h.nd, fun a ha y hy => ?_, fun s q => ?_, h.ran, by have := h.len; rw [rm_length hk]; simp at this ⊢; omega⟩
  · rcases List.mem_append.mp hy with hy | hy
    · exact h.can.fi y (List.mem_append_left _ hy)
    · simp only [List.mem_singleton] at hy
      subst hy
      unfold fine
      simp only
      omega
  · rw [List.pairwise_append]
    refine ⟨hpw.1, List.pairwise_singleton _ _, fun a ha b hb' => ?_⟩
    simp only [List.mem_singleton] at hb'
    subst hb'
    have := hpw.2.2 a ha d (by simp)
    unfold befF at this ⊢
    exact this
  · rcases List.mem_append.mp ha with ha | ha
    · exact h.bef a (List.mem_append_left _ ha) y ((hmem y).mp hy).1
    · simp only [List.mem_singleton] at ha
      subst ha
      have := hl y hy
      simp only
      omega
  · rw [h.cv, hmem, cov_app, cov_one, cov_app, cov_one]
    unfold inF
    simp only
    constructor
    · rintro (h3 | h3 | h3)
      · by_cases e : (⟨s, q⟩ : Sp) = x
        · right; right; rw [← e] at h1 h2; simp only at h1 h2; omega
        · exact .inl ⟨h3, e⟩
      · exact .inr (.inl h3)
      · right; right; omega
    · rintro (h3 | h3 | h3)
      · exact .inl h3.1
      · exact .inr (.inl h3)
      · by_cases e : q = x.p
        · left
          have : (⟨s, q⟩ : Sp) = x := by cases x; simp only at *; rw [e]; congr 1; omega
          rw [this]; exact hx
        · right; right; omega

/-- The rounds behind a Take. -/
def takR (a b : Nat) (r : Int) : Int := if a + b = 0 then r else r + 1
def lenOf : Value → Nat
  | .slice _ n _ => n
  | _ => 0
theorem takeX_close {w w2 : World} {B q : Nat} {m : Int} {v u : Value} {P : List Sp} {Q : List Bk} {r r' : Int} (hR : RepX w B q m v u P Q r) (K : Keep (fun _ => False) w w2) (hr : 0 ≤ r' ∧ r' ≤ 1000) {w3 : World}
    (h3 : w3.heap[q]? = some (.cells #[.int .i64 m, .slice none 0 0, .slice none 0 0, .int .i64 r'] 37 (0, 0))) (K3 : Keep (fun z => z = q) w2 w3) :
    RepX w3 B q m (.slice none 0 0) (.slice none 0 0) [] [] r' ∧ OwnL bkE w3 B 48 u Q ∧ Keep (fun z => z = q) w w3 :=
  ⟨⟨h3, OwnL.nil _ _ _, OwnL.nil _ _ _, by simp, by simp, hr⟩, (hR.hu.keep K (fun _ _ => id)).keep K3 (fun x hx => hR.nu x hx), (K.mono (fun _ _ h => h.elim)).trans K3⟩

set_option maxRecDepth 100000 in
set_option maxHeartbeats 4000000 in
theorem takeX_any (B q : Nat) (m : Int) (v u : Value) (P : List Sp) (Q : List Bk) (r : Int) (hnd : P.Nodup) (hran : ∀ x, x ∈ P → 0 ≤ x.s ∧ 0 ≤ x.p ∧ x.p < 4096) (hr : r < 900) (w : World) (hB : B ≤ w.heap.size) (hR : RepX w B q m v u P Q r) :
    Calls Try.prog 11 #[.pointer (some ⟨q, 0, none⟩)] w fun e w' => ∃ vo D, e = .returned (.tuple #[vo, u]) ∧ OwnL flE w' w.heap.size 40 vo D ∧ TkI P [] D ∧ RepX w' B q m (.slice none 0 0) (.slice none 0 0) [] [] (takR P.length Q.length r) ∧ OwnL bkE w' B 48 u Q ∧ Keep (fun z => z = q) w w' := by
  have HRR := Lib.hid hR
  obtain ⟨c0, c1, c2, c3⟩ := hR.cs
  have hll := hR.hl
  have hlq := hR.hq
  have hr0 := hR.hr
  have HI0 : Hid (TkI P P []) := ⟨⟨by simp, List.Pairwise.nil⟩, hnd, fun x hx => (by cases hx), fun s q => ⟨.inl, fun h => h.elim id (fun ⟨x, hx, _⟩ => by cases hx)⟩, hran, by simp⟩
  clear hnd hran
  go_enter Try.func11, Try.ntmps11
  go_wp2
  clear c0 c1 c2 c3
  go_loopw [4, 5] (fun vo vl wr => ∃ (vl' : Value) (L : List Sp) (D : List Fl), vl' = vl ∧ OwnL spE wr B 42 vl' L ∧ (∃ vo' : Value, vo' = vo ∧ OwnL flE wr w.heap.size 40 vo' D) ∧ TkI P L D ∧ Keep (fun _ => False) w wr) (fun _ vl _ => lenOf vl)
  case atStart => exact ⟨_, P, [], rfl, HRR.out.hv, ⟨_, rfl, OwnL.nil _ _ _⟩, HI0.out, Keep.refl _ _⟩
  case round =>
    obtain ⟨vl, L, D, hvl, hL, ⟨vo, hvo, hO⟩, hI, hkeep⟩ := hrel
    subst hvl; subst hvo
    have HL := Lib.hid hL
    have HO := Lib.hid hO
    have HI := Lib.hid hI
    have HK := Lib.hid hkeep
    have hlen := hI.len
    clear hL hO hI hkeep
    by_cases hne : L = []
    · subst hne
      obtain ⟨al, cl, hvl, -⟩ := HL.out.slice
      subst hvl
      obtain ⟨ao, co, hvo, -⟩ := HO.out.slice
      subst hvo
      have HRw := Lib.hid (HRR.out.keep0 HK.out)
      obtain ⟨c0, c1, c2, c3⟩ := HRw.out.cs
      obtain ⟨a2, cq, hvq, -⟩ := HRw.out.hu.slice
      subst hvq
      have f1 : wr.frozen? ⟨q, 1, none⟩ = false := frozen_block HRw.out.hp
      have f2 : wr.frozen? ⟨q, 2, none⟩ = false := frozen_block HRw.out.hp
      have f3 : wr.frozen? ⟨q, 3, none⟩ = false := frozen_block HRw.out.hp
      have hr1 : IntKind.i64.wrap (r + 1) = r + 1 := IntWalk.i64_in _ (by omega)
      have HPD : Hid (P.length + Q.length = 0 ↔ D.length + Q.length = 0) := by
        unfold Hid
        have h1 : D.length ≤ P.length := by simpa using hlen
        refine ⟨fun h => by omega, fun h => ?_⟩
        have hD : D = [] := List.eq_nil_of_length_eq_zero (by omega)
        have hP : P = [] := by
          cases P with
          | nil => rfl
          | cons y P =>
            have := (HI.out.cv y.s y.p).mp (List.mem_cons_self ..)
            rw [hD] at this
            rcases this with h | ⟨z, hz, _⟩
            · cases h
            · cases hz
        rw [hP, List.length_nil]; omega
      have hdl : D.length ≤ 5000 := by simp at hlen; omega
      by_cases h0 : D.length + Q.length = 0
      · have t0 : decide ((0 : Int) < (D.length : Int) + (Q.length : Int)) = false := decide_eq_false (by omega)
        have HE : Hid (takR P.length Q.length r = r) := by unfold Hid takR; rw [if_pos (HPD.out.mpr h0)]
        clear h0
        go_wp2
        go_ret2
        have KP := ((Keep.refl (fun z => z = q) wr).setCell (p := ⟨q, 1, none⟩) (fun _ => rfl) (.slice none 0 0)).setCell (p := ⟨q, 2, none⟩) (fun _ => rfl) (.slice none 0 0)
        rw [HE.out]
        obtain ⟨g1, g2, g3⟩ := takeX_close HRR.out HK.out (r' := r) (by omega) (by rw [heap_setCell_eq (heap_setCell_eq HRw.out.hp)]; rfl) KP
        exact ⟨_, D, rfl, HO.out.keep KP (fun x hx e => by subst e; have := (HO.out.lt x hx).1; have := block_lt HRR.out.hp; omega), HI.out, g1, g2, g3⟩
      · have t0 : decide ((0 : Int) < (D.length : Int) + (Q.length : Int)) = true := decide_eq_true (by omega)
        have HE : Hid (takR P.length Q.length r = r + 1) := by unfold Hid takR; rw [if_neg (fun h => h0 (HPD.out.mp h))]
        clear h0
        go_wp2
        go_ret2
        have KP := (((Keep.refl (fun z => z = q) wr).setCell (p := ⟨q, 3, none⟩) (fun _ => rfl) (.int .i64 (r + 1))).setCell (p := ⟨q, 1, none⟩) (fun _ => rfl) (.slice none 0 0)).setCell (p := ⟨q, 2, none⟩) (fun _ => rfl) (.slice none 0 0)
        rw [HE.out]
        obtain ⟨g1, g2, g3⟩ := takeX_close HRR.out HK.out (r' := r + 1) (by omega) (by rw [heap_setCell_eq (heap_setCell_eq (heap_setCell_eq HRw.out.hp))]; rfl) KP
        exact ⟨_, D, rfl, HO.out.keep KP (fun x hx e => by subst e; have := (HO.out.lt x hx).1; have := block_lt HRR.out.hp; omega), HI.out, g1, g2, g3⟩
    · obtain ⟨g, cap, hvg, -⟩ := HL.out.form hne
      subst hvg
      have hl0 : 0 < L.length := List.length_pos_iff.mpr hne
      go_wp2_with fail
      refine (first_any B _ L _ HL.out hne (by omega)).mono ?_
      rintro e w5 ⟨k, hk, rfl, hmin, hk5⟩
      have HMIN := Lib.hid hmin
      have HK5 := Lib.hid (HK.out.trans hk5)
      have HL5 := Lib.hid (HL.out.keep hk5 (fun _ _ => id))
      have HO5 := Lib.hid (HO.out.keep hk5 (fun _ _ => id))
      obtain ⟨ao, co, hvo, hao⟩ := HO5.out.slice
      subst hvo
      have HAO := Lib.hid hao
      obtain ⟨c0, c1⟩ := sp_cells HL5.out hk
      have HNEW := Lib.hid (fun hs => HI.out.new hk hmin hs)
      have HGR := Lib.hid (fun (E : List Fl) (d : Fl) (hd : D = E ++ [d]) => (TkI.grow (hd ▸ HI.out) hk hmin))
      have hkz : (0 : Int) ≤ (k : Int) := Int.natCast_nonneg k
      have hkl : (k : Int) < (L.length : Int) := Int.ofNat_lt.mpr hk
      have hkl2 : (k : Int) + 1 ≤ (L.length : Int) := by omega
      have hwk : IntKind.i64.wrap (↑k + 1) = ↑k + 1 := IntWalk.i64_in _ (by omega)
      have hB6 : B ≤ w.heap.size := hB
      obtain ⟨x, hx⟩ : ∃ x, L[k] = x := ⟨_, rfl⟩
      rw [hx] at c0 c1 HNEW HGR
      have hpx : x.p < 4096 := by have := HI.out.ran _ (HI.out.mem (List.getElem_mem hk)); rw [hx] at this; exact this.2.2
      clear hx hmin hao HMIN
      rcases List.eq_nil_or_concat D with hD | ⟨E, d, hD⟩
      · have HNEW := Lib.hid (HNEW.out (.inl hD))
        have hdl : (D.length : Int) = 0 := by rw [hD]; rfl
        have a1 : IntKind.i64.wrap ((D.length : Int) - 1) = -1 := by rw [hdl]; decide
        have t1 : decide ((0 : Int) ≤ -1) = false := by decide
        clear hdl hD
        go_wp2
        go_quiet (fail)
        generalize hwq : World.drewN _ _ = wq
        have HKq : Hid (Keep (fun _ => False) w5 wq) := by rw [← hwq]; exact (by (repeat (first | exact Keep.refl _ _ | exact Keep.refl _ _ | refine Keep.drew ?_ | refine Keep.drewN ?_ _ | refine Keep.alloc ?_ _ | refine Keep.setNew ?_ (by omega) _)); done)
        have hs2 : wq.cell? ⟨w5.heap.size, 0, none⟩ = some (.int .i64 x.s) ∧ wq.cell? ⟨w5.heap.size, 1, none⟩ = some (.int .i64 x.p) := by rw [← hwq]; exact cells2 (heap_alloc_new w5 (.cells #[.int .i64 x.s, .int .i64 x.p] 42))
        obtain ⟨s0, s1⟩ := hs2
        clear hwq c0 c1
        have HKWq := Lib.hid (HK5.out.trans HKq.out)
        have HLq := Lib.hid (HL5.out.keep HKq.out (fun _ _ => id))
        have HOq := Lib.hid (HO5.out.keep HKq.out (fun _ _ => id))
        go_wp2_with (at_builtin; go_loud (refine wpl_appF et28 rfl (.tmp 64) (.tmp 70) rfl w.heap.size (.slice ao D.length co) D.length (flE.cs D) rfl (OwnL.keep HOq.out (Keep.alloc (Keep.refl (fun _ => False) wq) _) (fun _ _ => id)) ⟨wq.heap.size, 0, none⟩ 1 1 (flE.c ⟨x.s, x.p, 1⟩) rfl rfl (new_cells (heap_alloc_new wq _)) (flE.one _) (by unfold maxLen; omega) (by omega) (by have := HKWq.out.size; simp; omega) ?_; intro v6 w6 hown6 hgrow6 hf6; have HK6 : Hid (Keep (fun z => (Value.slice ao D.length co).ownBlock = some z) wq w6) := (Keep.grown (Keep.alloc (Keep.refl _ wq) _) hgrow6 (fun z h1 h2 => h1)); have HO6 : Hid (OwnL flE w6 w.heap.size 40 v6 (D ++ [⟨x.s, x.p, 1⟩])) := (by unfold Hid OwnL; rw [List.length_append, flE.cs_append, flE.cs_one]; exact hown6); clear hown6 hgrow6 hf6))
        have HL6 := Lib.hid (HLq.out.keep HK6.out (fun z hz e => by
          obtain ⟨cc, hcc⟩ := own_typ HLq.out hz
          obtain ⟨cd, hcd⟩ := own_typ HOq.out e
          exact typ_ne hcc hcd (by decide) rfl))
        have HW6 : Hid (Keep (fun _ => False) w w6) := HKWq.out.on HK6.out (fun z hz e => by have := (HOq.out.lt z e).1; omega)
        have HSZ6 := HW6.out.size
        clear s0 s1
        obtain ⟨vlo, hlo, hrlo⟩ := sl_lo et35 HL6.out (Nat.le_of_lt hk)
        obtain ⟨vhi, hhi, hrhi⟩ := sl_hi et35 HL6.out (i := k + 1) (by omega) (↑k + 1) (by simp)
        have RLO := Lib.hid hrlo
        have RHI := Lib.hid hrhi
        clear hrlo hrhi
        go_region_law
          (first | (refine step_app et35 (by rfl) (.tmp 72) (.tmp 75) (by rfl) w6.heap.size (.slice (some ⟨w6.heap.size, 0, none⟩) 0 0) 0 [] (by rfl) (own_empty_at (heap_alloc_new w6 _) (Nat.le_refl _)) vlo k (spE.cs (L.take k)) (by rfl) (RLO.out.keep (S := fun _ => False) (by (repeat (first | exact Keep.refl _ _ | exact Keep.refl _ _ | refine Keep.drew ?_ | refine Keep.drewN ?_ _ | refine Keep.alloc ?_ _ | refine Keep.setNew ?_ (by omega) _)); done) (fun _ _ _ _ => id)) (spE.cs_one_cell _) (by unfold maxLen; omega) (by omega) (by simp) ?_; intro v7 w7 hown1 hgrow1; have HK7 : Hid (Keep (fun _ => False) w6 w7) := Keep.grown (by (repeat (first | exact Keep.refl _ _ | exact Keep.refl _ _ | refine Keep.drew ?_ | refine Keep.drewN ?_ _ | refine Keep.alloc ?_ _ | refine Keep.setNew ?_ (by omega) _)); done) hgrow1 (fun x h1 h2 => by simp [Value.ownBlock] at h1; omega); have HO7 := Lib.hid hown1; clear hown1 hgrow1)
                 | (refine step_app et35 (by rfl) (.tmp 76) (.tmp 80) (by rfl) w6.heap.size v7 _ _ (by rfl) HO7.out vhi (L.length - (k + 1)) (spE.cs (L.drop (k + 1))) (by rfl) (RHI.out.keep HK7.out (fun _ _ _ _ => id)) (spE.cs_one_cell _) (by unfold maxLen; omega) (by omega) (by have := HK7.out.size; omega) ?_; intro v8 w8 hown2 hgrow2; have HK8 : Hid (Keep (fun _ => False) w6 w8) := Keep.grown HK7.out hgrow2 (fun x h1 h2 => by have := (HO7.out.lt x h1).1; omega); have HO8 : Hid (OwnL spE w8 B 42 v8 (rm L k)) := rm_own (Nat.le_trans hB6 HSZ6) hk hown2; clear hown2 hgrow2))
        all_goals
          obtain ⟨a8, c8, hv8, -⟩ := HO8.out.slice
          subst hv8
          go_wp2
          (try simp only [Act.put, List.getElem_toArray, List.getElem_cons_succ, List.getElem_cons_zero, List.setIfInBounds_toArray, List.set_cons_succ, List.set_cons_zero])
          go_roundw
          case rel => exact ⟨_, rm L k, D ++ [⟨x.s, x.p, 1⟩], rfl, HO8.out, ⟨_, rfl, HO6.out.keep HK8.out (fun _ _ => id)⟩, HNEW.out, HW6.out.trans HK8.out⟩
          case measure => show (rm L k).length < L.length; rw [rm_length hk]; omega
      · rw [List.concat_eq_append] at hD
        obtain ⟨e1, he1⟩ : ∃ e1, e1 = E.length := ⟨_, rfl⟩
        have hdl2 : D.length = e1 + 1 := by rw [hD, he1]; simp
        have hel : e1 < D.length := by omega
        have hgd : D[e1] = d := by subst he1; subst hD; simp
        obtain ⟨g2, rfl⟩ := HAO.out (by intro e; rw [e] at hdl2; simp at hdl2)
        obtain ⟨d0, d1, d2⟩ := fl_cells HO5.out hel
        rw [hgd] at d0 d1 d2
        have hgl := block_lt_cell d0
        have p0 := (cell_alloc_lt (o := .cells #[.int .i64 x.s, .int .i64 x.p] 42) (i := e1 * 3) hgl).trans d0
        have p1 := (cell_alloc_lt (o := .cells #[.int .i64 x.s, .int .i64 x.p] 42) (i := e1 * 3 + 1) hgl).trans d1
        have p2 := (cell_alloc_lt (o := .cells #[.int .i64 x.s, .int .i64 x.p] 42) (i := e1 * 3 + 1 + 1) hgl).trans d2
        have hdf := HI.out.can.fi d (by rw [hD]; simp)
        have a1 : IntKind.i64.wrap ((D.length : Int) - 1) = (e1 : Int) := by rw [show (D.length : Int) - 1 = e1 by omega]; exact IntWalk.i64_in _ (by omega)
        have HGD := Lib.hid hgd
        have HD := Lib.hid hD
        have HE1 := Lib.hid he1
        clear hdl2
        have hez : (0 : Int) ≤ (e1 : Int) := Int.natCast_nonneg e1
        have hez2 : (e1 : Int) < (D.length : Int) := Int.ofNat_lt.mpr hel
        have t1 : decide ((0 : Int) ≤ (e1 : Int)) = true := decide_eq_true hez
        unfold fine at hdf
        have a2 : IntKind.i64.wrap (d.p + d.n) = d.p + d.n := IntWalk.i64_in _ (by omega)
        have a3 : IntKind.i64.wrap (d.n + 1) = d.n + 1 := IntWalk.i64_in _ (by omega)
        clear hgd hD he1
        by_cases g1 : d.s = x.s
        · have t2 : (d.s == x.s) = true := by simpa using g1
          by_cases g3 : d.p + d.n = x.p
          · have t3 : (d.p + d.n == x.p) = true := by simpa using g3
            have HGROW := Lib.hid (HGR.out E d HD.out g1 g3)
            clear g1 g3
            go_wp2
            go_quiet (fail)
            generalize hwq : World.drewN _ _ = wq
            have HKq : Hid (Keep (fun _ => False) w5 wq) := by rw [← hwq]; exact (by (repeat (first | exact Keep.refl _ _ | exact Keep.refl _ _ | refine Keep.drew ?_ | refine Keep.drewN ?_ _ | refine Keep.alloc ?_ _ | refine Keep.setNew ?_ (by omega) _)); done)
            have hs2 : wq.cell? ⟨w5.heap.size, 0, none⟩ = some (.int .i64 x.s) ∧ wq.cell? ⟨w5.heap.size, 1, none⟩ = some (.int .i64 x.p) := by rw [← hwq]; exact cells2 (heap_alloc_new w5 (.cells #[.int .i64 x.s, .int .i64 x.p] 42))
            obtain ⟨s0, s1⟩ := hs2
            have q0 := (HKq.out.cell hgl id).trans d0
            have q1 := (HKq.out.cell hgl id).trans d1
            have q2 := (HKq.out.cell hgl id).trans d2
            have fz2 : wq.frozen? ⟨g2, e1 * 3 + 1 + 1, none⟩ = false := (HO5.out.keep HKq.out (fun _ _ => id)).frozen _
            clear hwq c0 c1 d0 d1 d2 p0 p1 p2 hgl
            have HKWq := Lib.hid (HK5.out.trans HKq.out)
            have HLq := Lib.hid (HL5.out.keep HKq.out (fun _ _ => id))
            have HOq := Lib.hid (HO5.out.keep HKq.out (fun _ _ => id))
            go_wp2
            have HL6 : Hid (OwnL spE (wq.setCell ⟨g2, e1 * 3 + 1 + 1, none⟩ (.int .i64 (d.n + 1))) B 42 (.slice (some ⟨g, 0, none⟩) L.length cap) L) := HLq.out.keep ((Keep.refl (fun z => z = g2) wq).setCell (fun _ => rfl) _) (fun z hz e => by
              obtain ⟨cc, hcc⟩ := own_typ HLq.out hz
              obtain ⟨cd, hcd⟩ := own_typ HOq.out (x := g2) rfl
              subst e
              exact typ_ne hcc hcd (by decide) rfl)
            have HO6 : Hid (OwnL flE (wq.setCell ⟨g2, e1 * 3 + 1 + 1, none⟩ (.int .i64 (d.n + 1))) w.heap.size 40 (.slice (some ⟨g2, 0, none⟩) D.length co) (E ++ [⟨d.s, d.p, d.n + 1⟩])) := (by
              have h := OwnL.set (j := 2) (x := (⟨d.s, d.p, d.n + 1⟩ : Fl)) (u := .int .i64 (d.n + 1)) HOq.out hel (by decide) (by rw [HGD.out]; rfl)
              rw [HD.out, show e1 = E.length from HE1.out] at h
              unfold Hid
              rw [HD.out, show e1 = E.length from HE1.out]
              have hk3 : flE.k = 3 := rfl
              rw [hk3] at h
              simpa using h)
            have HW6 : Hid (Keep (fun _ => False) w (wq.setCell ⟨g2, e1 * 3 + 1 + 1, none⟩ (.int .i64 (d.n + 1)))) := HKWq.out.setCell (fun h => absurd h (by have := (HOq.out.lt g2 rfl).1; simp only; omega)) _
            generalize hw6 : wq.setCell ⟨g2, e1 * 3 + 1 + 1, none⟩ (.int .i64 (d.n + 1)) = w6 at *
            clear hw6
            have HSZ6 := HW6.out.size
            clear s0 s1
            obtain ⟨vlo, hlo, hrlo⟩ := sl_lo et35 HL6.out (Nat.le_of_lt hk)
            obtain ⟨vhi, hhi, hrhi⟩ := sl_hi et35 HL6.out (i := k + 1) (by omega) (↑k + 1) (by simp)
            have RLO := Lib.hid hrlo
            have RHI := Lib.hid hrhi
            clear hrlo hrhi
            go_region_law
              (first | (refine step_app et35 (by rfl) (.tmp 72) (.tmp 75) (by rfl) w6.heap.size (.slice (some ⟨w6.heap.size, 0, none⟩) 0 0) 0 [] (by rfl) (own_empty_at (heap_alloc_new w6 _) (Nat.le_refl _)) vlo k (spE.cs (L.take k)) (by rfl) (RLO.out.keep (S := fun _ => False) (by (repeat (first | exact Keep.refl _ _ | exact Keep.refl _ _ | refine Keep.drew ?_ | refine Keep.drewN ?_ _ | refine Keep.alloc ?_ _ | refine Keep.setNew ?_ (by omega) _)); done) (fun _ _ _ _ => id)) (spE.cs_one_cell _) (by unfold maxLen; omega) (by omega) (by simp) ?_; intro v7 w7 hown1 hgrow1; have HK7 : Hid (Keep (fun _ => False) w6 w7) := Keep.grown (by (repeat (first | exact Keep.refl _ _ | exact Keep.refl _ _ | refine Keep.drew ?_ | refine Keep.drewN ?_ _ | refine Keep.alloc ?_ _ | refine Keep.setNew ?_ (by omega) _)); done) hgrow1 (fun x h1 h2 => by simp [Value.ownBlock] at h1; omega); have HO7 := Lib.hid hown1; clear hown1 hgrow1)
                     | (refine step_app et35 (by rfl) (.tmp 76) (.tmp 80) (by rfl) w6.heap.size v7 _ _ (by rfl) HO7.out vhi (L.length - (k + 1)) (spE.cs (L.drop (k + 1))) (by rfl) (RHI.out.keep HK7.out (fun _ _ _ _ => id)) (spE.cs_one_cell _) (by unfold maxLen; omega) (by omega) (by have := HK7.out.size; omega) ?_; intro v8 w8 hown2 hgrow2; have HK8 : Hid (Keep (fun _ => False) w6 w8) := Keep.grown HK7.out hgrow2 (fun x h1 h2 => by have := (HO7.out.lt x h1).1; omega); have HO8 : Hid (OwnL spE w8 B 42 v8 (rm L k)) := rm_own (Nat.le_trans hB6 HSZ6) hk hown2; clear hown2 hgrow2))
            all_goals
              obtain ⟨a8, c8, hv8, -⟩ := HO8.out.slice
              subst hv8
              go_wp2
              (try simp only [Act.put, List.getElem_toArray, List.getElem_cons_succ, List.getElem_cons_zero, List.setIfInBounds_toArray, List.set_cons_succ, List.set_cons_zero])
              go_roundw
              case rel => exact ⟨_, rm L k, E ++ [⟨d.s, d.p, d.n + 1⟩], rfl, HO8.out, ⟨_, rfl, HO6.out.keep HK8.out (fun _ _ => id)⟩, HGROW.out, HW6.out.trans HK8.out⟩
              case measure => show (rm L k).length < L.length; rw [rm_length hk]; omega

          · have t3 : (d.p + d.n == x.p) = false := by simpa using g3
            have HNEW := Lib.hid (HNEW.out (.inr ⟨E, d, HD.out, fun h => g3 h.2⟩))
            clear g1 g3
            go_wp2
            go_quiet (fail)
            generalize hwq : World.drewN _ _ = wq
            have HKq : Hid (Keep (fun _ => False) w5 wq) := by rw [← hwq]; exact (by (repeat (first | exact Keep.refl _ _ | exact Keep.refl _ _ | refine Keep.drew ?_ | refine Keep.drewN ?_ _ | refine Keep.alloc ?_ _ | refine Keep.setNew ?_ (by omega) _)); done)
            have hs2 : wq.cell? ⟨w5.heap.size, 0, none⟩ = some (.int .i64 x.s) ∧ wq.cell? ⟨w5.heap.size, 1, none⟩ = some (.int .i64 x.p) := by rw [← hwq]; exact cells2 (heap_alloc_new w5 (.cells #[.int .i64 x.s, .int .i64 x.p] 42))
            obtain ⟨s0, s1⟩ := hs2
            clear hwq c0 c1 d0 d1 d2 p0 p1 p2 hgl
            have HKWq := Lib.hid (HK5.out.trans HKq.out)
            have HLq := Lib.hid (HL5.out.keep HKq.out (fun _ _ => id))
            have HOq := Lib.hid (HO5.out.keep HKq.out (fun _ _ => id))
            go_wp2_with (at_builtin; go_loud (refine wpl_appF et28 rfl (.tmp 64) (.tmp 70) rfl w.heap.size (.slice (some ⟨g2, 0, none⟩) D.length co) D.length (flE.cs D) rfl (OwnL.keep HOq.out (Keep.alloc (Keep.refl (fun _ => False) wq) _) (fun _ _ => id)) ⟨wq.heap.size, 0, none⟩ 1 1 (flE.c ⟨x.s, x.p, 1⟩) rfl rfl (new_cells (heap_alloc_new wq _)) (flE.one _) (by unfold maxLen; omega) (by omega) (by have := HKWq.out.size; simp; omega) ?_; intro v6 w6 hown6 hgrow6 hf6; have HK6 : Hid (Keep (fun z => (Value.slice (some ⟨g2, 0, none⟩) D.length co).ownBlock = some z) wq w6) := (Keep.grown (Keep.alloc (Keep.refl _ wq) _) hgrow6 (fun z h1 h2 => h1)); have HO6 : Hid (OwnL flE w6 w.heap.size 40 v6 (D ++ [⟨x.s, x.p, 1⟩])) := (by unfold Hid OwnL; rw [List.length_append, flE.cs_append, flE.cs_one]; exact hown6); clear hown6 hgrow6 hf6))
            have HL6 := Lib.hid (HLq.out.keep HK6.out (fun z hz e => by
              obtain ⟨cc, hcc⟩ := own_typ HLq.out hz
              obtain ⟨cd, hcd⟩ := own_typ HOq.out e
              exact typ_ne hcc hcd (by decide) rfl))
            have HW6 : Hid (Keep (fun _ => False) w w6) := HKWq.out.on HK6.out (fun z hz e => by have := (HOq.out.lt z e).1; omega)
            have HSZ6 := HW6.out.size
            clear s0 s1
            obtain ⟨vlo, hlo, hrlo⟩ := sl_lo et35 HL6.out (Nat.le_of_lt hk)
            obtain ⟨vhi, hhi, hrhi⟩ := sl_hi et35 HL6.out (i := k + 1) (by omega) (↑k + 1) (by simp)
            have RLO := Lib.hid hrlo
            have RHI := Lib.hid hrhi
            clear hrlo hrhi
            go_region_law
              (first | (refine step_app et35 (by rfl) (.tmp 72) (.tmp 75) (by rfl) w6.heap.size (.slice (some ⟨w6.heap.size, 0, none⟩) 0 0) 0 [] (by rfl) (own_empty_at (heap_alloc_new w6 _) (Nat.le_refl _)) vlo k (spE.cs (L.take k)) (by rfl) (RLO.out.keep (S := fun _ => False) (by (repeat (first | exact Keep.refl _ _ | exact Keep.refl _ _ | refine Keep.drew ?_ | refine Keep.drewN ?_ _ | refine Keep.alloc ?_ _ | refine Keep.setNew ?_ (by omega) _)); done) (fun _ _ _ _ => id)) (spE.cs_one_cell _) (by unfold maxLen; omega) (by omega) (by simp) ?_; intro v7 w7 hown1 hgrow1; have HK7 : Hid (Keep (fun _ => False) w6 w7) := Keep.grown (by (repeat (first | exact Keep.refl _ _ | exact Keep.refl _ _ | refine Keep.drew ?_ | refine Keep.drewN ?_ _ | refine Keep.alloc ?_ _ | refine Keep.setNew ?_ (by omega) _)); done) hgrow1 (fun x h1 h2 => by simp [Value.ownBlock] at h1; omega); have HO7 := Lib.hid hown1; clear hown1 hgrow1)
                     | (refine step_app et35 (by rfl) (.tmp 76) (.tmp 80) (by rfl) w6.heap.size v7 _ _ (by rfl) HO7.out vhi (L.length - (k + 1)) (spE.cs (L.drop (k + 1))) (by rfl) (RHI.out.keep HK7.out (fun _ _ _ _ => id)) (spE.cs_one_cell _) (by unfold maxLen; omega) (by omega) (by have := HK7.out.size; omega) ?_; intro v8 w8 hown2 hgrow2; have HK8 : Hid (Keep (fun _ => False) w6 w8) := Keep.grown HK7.out hgrow2 (fun x h1 h2 => by have := (HO7.out.lt x h1).1; omega); have HO8 : Hid (OwnL spE w8 B 42 v8 (rm L k)) := rm_own (Nat.le_trans hB6 HSZ6) hk hown2; clear hown2 hgrow2))
            all_goals
              obtain ⟨a8, c8, hv8, -⟩ := HO8.out.slice
              subst hv8
              go_wp2
              (try simp only [Act.put, List.getElem_toArray, List.getElem_cons_succ, List.getElem_cons_zero, List.setIfInBounds_toArray, List.set_cons_succ, List.set_cons_zero])
              go_roundw
              case rel => exact ⟨_, rm L k, D ++ [⟨x.s, x.p, 1⟩], rfl, HO8.out, ⟨_, rfl, HO6.out.keep HK8.out (fun _ _ => id)⟩, HNEW.out, HW6.out.trans HK8.out⟩
              case measure => show (rm L k).length < L.length; rw [rm_length hk]; omega

        · have t2 : (d.s == x.s) = false := by simpa using g1
          have HNEW := Lib.hid (HNEW.out (.inr ⟨E, d, HD.out, fun h => g1 h.1⟩))
          clear g1
          go_wp2
          go_quiet (fail)
          generalize hwq : World.drewN _ _ = wq
          have HKq : Hid (Keep (fun _ => False) w5 wq) := by rw [← hwq]; exact (by (repeat (first | exact Keep.refl _ _ | exact Keep.refl _ _ | refine Keep.drew ?_ | refine Keep.drewN ?_ _ | refine Keep.alloc ?_ _ | refine Keep.setNew ?_ (by omega) _)); done)
          have hs2 : wq.cell? ⟨w5.heap.size, 0, none⟩ = some (.int .i64 x.s) ∧ wq.cell? ⟨w5.heap.size, 1, none⟩ = some (.int .i64 x.p) := by rw [← hwq]; exact cells2 (heap_alloc_new w5 (.cells #[.int .i64 x.s, .int .i64 x.p] 42))
          obtain ⟨s0, s1⟩ := hs2
          clear hwq c0 c1 d0 d1 d2 p0 p1 p2 hgl
          have HKWq := Lib.hid (HK5.out.trans HKq.out)
          have HLq := Lib.hid (HL5.out.keep HKq.out (fun _ _ => id))
          have HOq := Lib.hid (HO5.out.keep HKq.out (fun _ _ => id))
          go_wp2_with (at_builtin; go_loud (refine wpl_appF et28 rfl (.tmp 64) (.tmp 70) rfl w.heap.size (.slice (some ⟨g2, 0, none⟩) D.length co) D.length (flE.cs D) rfl (OwnL.keep HOq.out (Keep.alloc (Keep.refl (fun _ => False) wq) _) (fun _ _ => id)) ⟨wq.heap.size, 0, none⟩ 1 1 (flE.c ⟨x.s, x.p, 1⟩) rfl rfl (new_cells (heap_alloc_new wq _)) (flE.one _) (by unfold maxLen; omega) (by omega) (by have := HKWq.out.size; simp; omega) ?_; intro v6 w6 hown6 hgrow6 hf6; have HK6 : Hid (Keep (fun z => (Value.slice (some ⟨g2, 0, none⟩) D.length co).ownBlock = some z) wq w6) := (Keep.grown (Keep.alloc (Keep.refl _ wq) _) hgrow6 (fun z h1 h2 => h1)); have HO6 : Hid (OwnL flE w6 w.heap.size 40 v6 (D ++ [⟨x.s, x.p, 1⟩])) := (by unfold Hid OwnL; rw [List.length_append, flE.cs_append, flE.cs_one]; exact hown6); clear hown6 hgrow6 hf6))
          have HL6 := Lib.hid (HLq.out.keep HK6.out (fun z hz e => by
            obtain ⟨cc, hcc⟩ := own_typ HLq.out hz
            obtain ⟨cd, hcd⟩ := own_typ HOq.out e
            exact typ_ne hcc hcd (by decide) rfl))
          have HW6 : Hid (Keep (fun _ => False) w w6) := HKWq.out.on HK6.out (fun z hz e => by have := (HOq.out.lt z e).1; omega)
          have HSZ6 := HW6.out.size
          clear s0 s1
          obtain ⟨vlo, hlo, hrlo⟩ := sl_lo et35 HL6.out (Nat.le_of_lt hk)
          obtain ⟨vhi, hhi, hrhi⟩ := sl_hi et35 HL6.out (i := k + 1) (by omega) (↑k + 1) (by simp)
          have RLO := Lib.hid hrlo
          have RHI := Lib.hid hrhi
          clear hrlo hrhi
          go_region_law
            (first | (refine step_app et35 (by rfl) (.tmp 72) (.tmp 75) (by rfl) w6.heap.size (.slice (some ⟨w6.heap.size, 0, none⟩) 0 0) 0 [] (by rfl) (own_empty_at (heap_alloc_new w6 _) (Nat.le_refl _)) vlo k (spE.cs (L.take k)) (by rfl) (RLO.out.keep (S := fun _ => False) (by (repeat (first | exact Keep.refl _ _ | exact Keep.refl _ _ | refine Keep.drew ?_ | refine Keep.drewN ?_ _ | refine Keep.alloc ?_ _ | refine Keep.setNew ?_ (by omega) _)); done) (fun _ _ _ _ => id)) (spE.cs_one_cell _) (by unfold maxLen; omega) (by omega) (by simp) ?_; intro v7 w7 hown1 hgrow1; have HK7 : Hid (Keep (fun _ => False) w6 w7) := Keep.grown (by (repeat (first | exact Keep.refl _ _ | exact Keep.refl _ _ | refine Keep.drew ?_ | refine Keep.drewN ?_ _ | refine Keep.alloc ?_ _ | refine Keep.setNew ?_ (by omega) _)); done) hgrow1 (fun x h1 h2 => by simp [Value.ownBlock] at h1; omega); have HO7 := Lib.hid hown1; clear hown1 hgrow1)
                   | (refine step_app et35 (by rfl) (.tmp 76) (.tmp 80) (by rfl) w6.heap.size v7 _ _ (by rfl) HO7.out vhi (L.length - (k + 1)) (spE.cs (L.drop (k + 1))) (by rfl) (RHI.out.keep HK7.out (fun _ _ _ _ => id)) (spE.cs_one_cell _) (by unfold maxLen; omega) (by omega) (by have := HK7.out.size; omega) ?_; intro v8 w8 hown2 hgrow2; have HK8 : Hid (Keep (fun _ => False) w6 w8) := Keep.grown HK7.out hgrow2 (fun x h1 h2 => by have := (HO7.out.lt x h1).1; omega); have HO8 : Hid (OwnL spE w8 B 42 v8 (rm L k)) := rm_own (Nat.le_trans hB6 HSZ6) hk hown2; clear hown2 hgrow2))
          all_goals
            obtain ⟨a8, c8, hv8, -⟩ := HO8.out.slice
            subst hv8
            go_wp2
            (try simp only [Act.put, List.getElem_toArray, List.getElem_cons_succ, List.getElem_cons_zero, List.setIfInBounds_toArray, List.set_cons_succ, List.set_cons_zero])
            go_roundw
            case rel => exact ⟨_, rm L k, D ++ [⟨x.s, x.p, 1⟩], rfl, HO8.out, ⟨_, rfl, HO6.out.keep HK8.out (fun _ _ => id)⟩, HNEW.out, HW6.out.trans HK8.out⟩
            case measure => show (rm L k).length < L.length; rw [rm_length hk]; omega

end Go.Proofs.Ytibcfglfcoljgaa
