/- MovingOrder: the plain law. -/
import Derived.Test.YtnlalihapmlceaaI
import Derived.Test.YtnlalihapmlceaaF
set_option linter.unusedVariables false
set_option linter.unusedSimpArgs false
namespace Go.Proofs.Ytnlalihapmlceaa
open Go.RowKit Go.Own

structure Ord (L : List Mv) (T : List Int) (k : Int) : Prop where
  len : T.length = 1024
  nd : (L.map Mv.f).Nodup
  ok : ∀ x, x ∈ L → 0 ≤ x.f ∧ x.f < 1024 ∧ (x.s = 1 ∨ x.s = 2) ∧ 0 ≤ x.a ∧ x.a ≤ k
  sa : ∀ x, x ∈ L → gi T x.f.toNat = x.s
  ou : ∀ g : Nat, g < 1024 → (∀ x, x ∈ L → x.f ≠ g) → gi T g = 0
  cn : rlenN T 1024 = L.length

theorem rlenN_set {T : List Int} {i : Nat} {v : Int} (hi : i < T.length) : ∀ k, rlenN (T.set i v) k + (if i < k ∧ gi T i > 0 then 1 else 0) = rlenN T k + (if i < k ∧ v > 0 then 1 else 0) := by
  intro k
  induction k with
  | zero => simp [rlenN]
  | succ k ih =>
    simp only [rlenN]
    by_cases e : i = k
    · subst e
      rw [gi_set_eq hi]
      simp at ih ⊢
      split <;> split <;> omega
    · rw [gi_set_ne e]
      by_cases h1 : i < k
      · have h2 : i < k + 1 := by omega
        simp only [h1, h2, true_and] at ih ⊢
        omega
      · have h2 : ¬ i < k + 1 := by omega
        simp only [h1, h2, false_and, if_false] at ih ⊢
        omega

theorem gi_rep (n i : Nat) : gi (List.replicate n 0) i = 0 := by
  unfold gi
  rw [List.getD_eq_getElem?_getD, List.getElem?_replicate]
  split <;> rfl
theorem rlenN_nil (n k : Nat) : rlenN (List.replicate n 0) k = 0 := by
  induction k with
  | zero => rfl
  | succ k ih => simp only [rlenN]; rw [ih, gi_rep]; rfl

theorem Ord.nil (k : Int) : Ord [] (List.replicate 1024 0) k :=
  ⟨List.length_replicate, List.nodup_nil, fun _ h => absurd h (List.not_mem_nil), fun _ h => absurd h (List.not_mem_nil), fun g hg _ => gi_rep _ _, rlenN_nil _ _⟩

theorem Ord.perm {L M : List Mv} {T : List Int} {k : Int} (h : Ord L T k) (p : L.Perm M) : Ord M T k :=
  ⟨h.len, (p.map _).nodup_iff.mp h.nd, fun x hx => h.ok x (p.mem_iff.mpr hx), fun x hx => h.sa x (p.mem_iff.mpr hx), fun g hg ha => h.ou g hg fun x hx => ha x (p.mem_iff.mp hx), by rw [← p.length_eq]; exact h.cn⟩

theorem Ord.age {L : List Mv} {T : List Int} {k m : Int} (h : Ord L T k) (hm : k ≤ m) : Ord L T m :=
  ⟨h.len, h.nd, fun x hx => by have := h.ok x hx; exact ⟨this.1, this.2.1, this.2.2.1, this.2.2.2.1, by omega⟩, h.sa, h.ou, h.cn⟩

theorem Ord.cons {L : List Mv} {T : List Int} {k : Int} {y : Mv} (h : Ord L T k) (hf : ∀ x, x ∈ L → x.f ≠ y.f) (hy : 0 ≤ y.f ∧ y.f < 1024 ∧ (y.s = 1 ∨ y.s = 2) ∧ 0 ≤ y.a ∧ y.a ≤ k) : Ord (y :: L) (T.set y.f.toNat y.s) k := by
  have hl := h.len
  have hlt : y.f.toNat < T.length := by omega
  refine ⟨by simp [hl], ?_, ?_, ?_, ?_, ?_⟩
  · rw [List.map_cons, List.nodup_cons]
    refine ⟨?_, h.nd⟩
    intro hm
    obtain ⟨x, hx, e⟩ := List.mem_map.mp hm
    exact hf x hx e
  · intro x hx
    rcases List.mem_cons.mp hx with rfl | hx
    · exact hy
    · exact h.ok x hx
  · intro x hx
    rcases List.mem_cons.mp hx with rfl | hx
    · exact gi_set_eq hlt _
    · have := hf x hx; have := h.ok x hx
      rw [gi_set_ne (by omega)]; exact h.sa x hx
  · intro g hg ha
    have := ha y (List.mem_cons_self ..)
    rw [gi_set_ne (by omega)]; exact h.ou g hg fun x hx => ha x (List.mem_cons_of_mem _ hx)
  · have h0 : gi T y.f.toNat = 0 := h.ou _ (by omega) fun x hx => by have := hf x hx; omega
    have := rlenN_set (v := y.s) hlt 1024
    rw [h0, if_neg (by omega), if_pos (by omega), h.cn] at this
    simpa using this

theorem Ord.tail {L : List Mv} {T : List Int} {k : Int} {y : Mv} (h : Ord (y :: L) T k) : Ord L (T.set y.f.toNat 0) k := by
  have hl := h.len
  have hy := h.ok y (List.mem_cons_self ..)
  have hlt : y.f.toNat < T.length := by omega
  have hnd := h.nd
  rw [List.map_cons, List.nodup_cons] at hnd
  have hne : ∀ x, x ∈ L → x.f ≠ y.f := fun x hx e => hnd.1 (List.mem_map.mpr ⟨x, hx, e⟩)
  refine ⟨by simp [hl], hnd.2, fun x hx => h.ok x (List.mem_cons_of_mem _ hx), ?_, ?_, ?_⟩
  · intro x hx
    have := hne x hx; have := h.ok x (List.mem_cons_of_mem _ hx)
    rw [gi_set_ne (by omega)]; exact h.sa x (List.mem_cons_of_mem _ hx)
  · intro g hg ha
    by_cases e : y.f.toNat = g
    · subst e; exact gi_set_eq hlt _
    · rw [gi_set_ne e]
      refine h.ou g hg fun x hx => ?_
      rcases List.mem_cons.mp hx with rfl | hx
      · omega
      · exact ha x hx
  · have h0 := h.sa y (List.mem_cons_self ..)
    have := rlenN_set (v := 0) hlt 1024
    rw [h0, if_pos (by omega), if_neg (by omega), h.cn, List.length_cons] at this
    omega

theorem endL_perm {L : List Mv} {k : Nat} (h : k < L.length) : L.Perm (L[k] :: endL L k) := by
  have e : L = L.take k ++ L[k] :: L.drop (k + 1) := by rw [← List.drop_eq_getElem_cons h, List.take_append_drop]
  exact (List.Perm.of_eq e).trans List.perm_middle
theorem set_perm {L : List Mv} {k : Nat} (h : k < L.length) (y : Mv) : (L.set k y).Perm (y :: endL L k) := by
  have e : L.set k y = L.take k ++ y :: L.drop (k + 1) := by rw [List.set_eq_take_append_cons_drop, if_pos h]
  exact (List.Perm.of_eq e).trans List.perm_middle
theorem begin_perm {L : List Mv} {f t : Int} : (beginL L f t).Perm (⟨f, t, 1, 0⟩ :: L) := by
  unfold beginL
  rw [List.append_assoc, List.singleton_append]
  exact List.perm_middle.trans (List.Perm.cons _ (List.Perm.of_eq (List.take_append_drop ..)))

theorem findM_none {L : List Mv} {f : Int} (h : (findM L f).isSome = false) : ∀ x, x ∈ L → x.f ≠ f ∧ x.t ≠ f := by
  intro x hx
  unfold findM at h
  simp at h
  have := h x hx
  constructor <;> intro e <;> simp [e] at this

/-- Begin goes through: f has no move. -/
theorem Ord.begin {L : List Mv} {T : List Int} {k most f t : Int} (h : Ord L T k) (hk : 0 ≤ k) (hb : beginE L most f t = 0) :
    0 ≤ f ∧ f < 1024 ∧ gi T f.toNat = 0 ∧ Ord (beginL L f t) (T.set f.toNat 1) k := by
  unfold beginE at hb
  by_cases h1 : frameB f = false ∨ frameB t = false
  · rw [if_pos h1] at hb; omega
  rw [if_neg h1] at hb
  by_cases h2 : f = t
  · rw [if_pos h2] at hb; omega
  rw [if_neg h2] at hb
  by_cases h3 : (findM L f).isSome = true ∨ (findM L t).isSome = true
  · rw [if_pos h3] at hb; omega
  have hfr : 0 ≤ f ∧ f < 1024 := by
    have : frameB f = true := by cases e : frameB f <;> simp [e] at h1 ⊢
    unfold frameB at this; simpa using this
  have hn := findM_none (L := L) (f := f) (by cases e : (findM L f).isSome <;> simp [e] at h3 ⊢)
  refine ⟨hfr.1, hfr.2, h.ou _ (by omega) fun x hx => by have := (hn x hx).1; omega, ?_⟩
  exact (h.cons (y := ⟨f, t, 1, 0⟩) (fun x hx => (hn x hx).1) ⟨hfr.1, hfr.2, .inl rfl, by simp, hk⟩).perm begin_perm.symm

theorem Ord.copy {L : List Mv} {T : List Int} {k f : Int} (h : Ord L T k) (hb : copyE L f = 0) :
    0 ≤ f ∧ f < 1024 ∧ gi T f.toNat = 1 ∧ Ord (copyL L f) (T.set f.toNat 2) k := by
  rcases ofI_cases L f with ⟨h1, h2⟩ | ⟨i, h1, hi, h3⟩
  · unfold copyE at hb; rw [if_pos h1] at hb; omega
  · have hm : meetM L f = L[i].s := by unfold meetM; rw [if_neg (by rw [h1]; omega), h1]; simp [hi]
    have hx := h.ok L[i] (List.getElem_mem hi)
    have ha := h.sa L[i] (List.getElem_mem hi)
    have hs : L[i].s = 1 := by
      unfold copyE at hb; rw [if_neg (by omega), hm] at hb
      by_cases e : L[i].s = 2
      · rw [if_pos e] at hb; omega
      · omega
    refine ⟨by omega, by omega, by rw [← h3, ha, hs], ?_⟩
    unfold copyL; rw [if_pos hb, h1]
    have hp := (h.perm (endL_perm hi)).tail
    have hnd := (h.perm (endL_perm hi)).nd
    rw [List.map_cons, List.nodup_cons] at hnd
    have hc := hp.cons (y := { L[i] with s := 2 }) (fun x hx e => hnd.1 (List.mem_map.mpr ⟨x, hx, e⟩)) ⟨hx.1, hx.2.1, .inr rfl, hx.2.2.2⟩
    have := hc.perm (set_perm hi _).symm
    simp [hi, h3] at this ⊢
    exact this

theorem Ord.fin {L : List Mv} {T : List Int} {k f : Int} (h : Ord L T k) (hb : (finR L f).2 = 0) :
    0 ≤ f ∧ f < 1024 ∧ gi T f.toNat = 2 ∧ Ord (finL L f) (T.set f.toNat 0) k := by
  rcases ofI_cases L f with ⟨h1, h2⟩ | ⟨i, h1, hi, h3⟩
  · unfold finR at hb; rw [if_pos h1] at hb; simp at hb
  · have hm : meetM L f = L[i].s := by unfold meetM; rw [if_neg (by rw [h1]; omega), h1]; simp [hi]
    have hx := h.ok L[i] (List.getElem_mem hi)
    have ha := h.sa L[i] (List.getElem_mem hi)
    have hs : L[i].s = 2 := by
      unfold finR at hb; rw [if_neg (by omega), hm] at hb
      by_cases e : L[i].s = 2
      · exact e
      · rw [if_pos e] at hb; simp at hb
    refine ⟨by omega, by omega, by rw [← h3, ha, hs], ?_⟩
    unfold finL; rw [if_neg (by omega), if_neg (by rw [hm]; omega), h1, ← h3]
    exact (h.perm (endL_perm hi)).tail
theorem fin_no {L : List Mv} {f : Int} (hb : (finR L f).2 ≠ 0) : finL L f = L := by
  unfold finR at hb; unfold finL
  by_cases h1 : ofI L f = -1
  · rw [if_pos h1]
  · rw [if_neg h1] at hb ⊢
    by_cases h2 : meetM L f ≠ 2
    · rw [if_pos h2]
    · rw [if_neg h2] at hb; simp at hb

theorem Ord.abort {L : List Mv} {T : List Int} {k f : Int} (h : Ord L T k) (hb : (abortR L f).2 = 0) :
    0 ≤ f ∧ f < 1024 ∧ gi T f.toNat ≠ 0 ∧ Ord (abortL L f) (T.set f.toNat 0) k := by
  rcases ofI_cases L f with ⟨h1, h2⟩ | ⟨i, h1, hi, h3⟩
  · unfold abortR at hb; rw [if_pos h1] at hb; simp at hb
  · have hx := h.ok L[i] (List.getElem_mem hi)
    have ha := h.sa L[i] (List.getElem_mem hi)
    refine ⟨by omega, by omega, by rw [← h3, ha]; omega, ?_⟩
    unfold abortL; rw [if_neg (by omega), h1, ← h3]
    exact (h.perm (endL_perm hi)).tail
theorem abort_no {L : List Mv} {f : Int} (hb : (abortR L f).2 ≠ 0) : abortL L f = L := by
  unfold abortR at hb; unfold abortL
  by_cases h1 : ofI L f = -1
  · rw [if_pos h1]
  · rw [if_neg h1] at hb; simp at hb

theorem Ord.tick {L : List Mv} {T : List Int} {k : Int} (h : Ord L T k) : Ord (tickL L) T (k + 1) := by
  unfold tickL
  refine ⟨h.len, by rw [List.map_map]; exact h.nd, ?_, ?_, ?_, by simpa using h.cn⟩
  · intro x hx
    obtain ⟨y, hy, rfl⟩ := List.mem_map.mp hx
    have := h.ok y hy
    exact ⟨this.1, this.2.1, this.2.2.1, by simp; omega, by simp; omega⟩
  · intro x hx
    obtain ⟨y, hy, rfl⟩ := List.mem_map.mp hx
    exact h.sa y hy
  · intro g hg ha
    exact h.ou g hg fun x hx => ha { x with a := x.a + 1 } (List.mem_map.mpr ⟨x, hx, rfl⟩)

end Go.Proofs.Ytnlalihapmlceaa
