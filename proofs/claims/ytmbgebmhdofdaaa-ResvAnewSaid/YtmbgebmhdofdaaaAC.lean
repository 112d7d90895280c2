/- Reservations, in plain: the reference's are the program's, in another order. -/
import Derived.Test.YtmbgebmhdofdaaaAB
set_option linter.unusedVariables false
set_option linter.unusedSimpArgs false
namespace Go.Proofs.Ytmbgebmhdofdaaa
open Go.RowKit Go.Own

def okR (s p f : Int) : Prop := 0 ≤ s ∧ 0 ≤ p ∧ p ≤ 4088 ∧ p % 8 = 0 ∧ 0 ≤ f ∧ f ≤ 1016 ∧ f % 8 = 0
/-- Two are of two pages and of two frames. -/
def Apt (a b : Ox) : Prop := (a.s ≠ b.s ∨ a.p ≠ b.p) ∧ a.f ≠ b.f
theorem Apt.symm {a b : Ox} (h : Apt a b) : Apt b a := ⟨h.1.imp Ne.symm Ne.symm, Ne.symm h.2⟩

/-- Both say the same. -/
structure Inv (L : List Rv) (X : List Ox) (T : Int) : Prop where
  pm : ∃ Y : List Ox, Y.Perm X ∧ L = Y.map Ox.rv ∧ Y.Pairwise (fun a b => a.t < b.t)
  tt : ∀ x, x ∈ X → x.t ≤ T
  ap : X.Pairwise Apt
  ok : ∀ x, x ∈ X → okR x.s x.p x.f ∧ x.b < 256
  t0 : 0 ≤ T

theorem Inv.start : Inv [] [] 0 := ⟨⟨[], List.Perm.refl _, rfl, List.Pairwise.nil⟩, by simp, List.Pairwise.nil, by simp, by omega⟩

theorem mid_at {α : Type} {L : List α} {k : Nat} (hk : k < L.length) : L = L.take k ++ L[k] :: L.drop (k + 1) := by
  rw [← List.drop_eq_getElem_cons hk, List.take_append_drop]
theorem set_at {α : Type} {L : List α} {k : Nat} (hk : k < L.length) (y : α) : L.set k y = L.take k ++ y :: L.drop (k + 1) := by
  rw [List.set_eq_take_append_cons_drop, if_pos hk]
theorem rmv_perm {α : Type} {L : List α} {k : Nat} (hk : k < L.length) : L.Perm (L[k] :: rmv L k) := by
  conv => lhs; rw [mid_at hk]
  exact List.perm_middle
theorem set_perm {α : Type} {L : List α} {k : Nat} (hk : k < L.length) (y : α) : (L.set k y).Perm (y :: rmv L k) := by
  rw [set_at hk]; exact List.perm_middle
theorem rmv_sub {α : Type} (L : List α) (k : Nat) : (rmv L k).Sublist L := by
  unfold rmv
  have := List.Sublist.append (List.Sublist.refl (L.take k)) (List.drop_sublist_drop_left L (show k ≤ k + 1 by omega))
  rwa [List.take_append_drop] at this
theorem map_rmv {α β : Type} (f : α → β) (L : List α) (k : Nat) : (rmv L k).map f = rmv (L.map f) k := by simp [rmv]

theorem whN_cases (L : List Rv) (s p : Int) : ∀ n i, i + n = L.length → (whN L s p i n = -1 ∧ ∀ j, i ≤ j → (h : j < L.length) → hit L[j] s p = false) ∨ (∃ k : Nat, whN L s p i n = k ∧ ∃ h : k < L.length, hit L[k] s p = true) := by
  intro n
  induction n with
  | zero => intro i h; exact .inl ⟨rfl, fun j hj hl => by omega⟩
  | succ n ih =>
    intro i h
    cases c : hit (L[i]'(by omega)) s p with
    | true => exact .inr ⟨i, whN_hit (by omega) (by omega) c, by omega, c⟩
    | false =>
      rw [whN_miss (by omega) (by omega) c, Nat.succ_sub_one]
      rcases ih (i + 1) (by omega) with ⟨h1, h2⟩ | ⟨k, h1, h3, h4⟩
      · refine .inl ⟨h1, fun j hj hl => ?_⟩
        by_cases e : j = i
        · subst e; exact c
        · exact h2 j (by omega) hl
      · exact .inr ⟨k, h1, h3, h4⟩
theorem whI_cases (L : List Rv) (s p : Int) : (whI L s p = -1 ∧ ∀ x, x ∈ L → ¬ (x.s = s ∧ x.p = p)) ∨ (∃ k : Nat, whI L s p = k ∧ ∃ h : k < L.length, L[k].s = s ∧ L[k].p = p) := by
  rcases whN_cases L s p L.length 0 (by omega) with ⟨h1, h2⟩ | ⟨k, h1, h3, h4⟩
  · refine .inl ⟨h1, fun x hx ⟨e1, e2⟩ => ?_⟩
    obtain ⟨j, hj, rfl⟩ := List.getElem_of_mem hx
    have := h2 j (by omega) hj
    simp [hit, e1, e2] at this
  · refine .inr ⟨k, h1, h3, ?_⟩
    simpa [hit] using h4
theorem atX_cases (X : List Ox) (s y : Int) : (atX X s y = -1 ∧ ∀ x, x ∈ X → ¬ (x.s = s ∧ x.p ≤ y ∧ y < x.p + 8)) ∨ (∃ k : Nat, atX X s y = k ∧ ∃ h : k < X.length, X[k].s = s ∧ X[k].p ≤ y ∧ y < X[k].p + 8) := by
  rcases fxN_cases (fun i => atQ (X.getD i ox0) s y) X.length 0 with ⟨h1, h2⟩ | ⟨k, h1, _, h3, h4, _⟩
  · refine .inl ⟨h1, fun x hx ⟨e1, e2, e3⟩ => ?_⟩
    obtain ⟨j, hj, rfl⟩ := List.getElem_of_mem hx
    have := h2 j (by omega) (by omega)
    simp [atQ, hj, e1, e2] at this
    omega
  · refine .inr ⟨k, h1, by omega, ?_⟩
    have hk : k < X.length := by omega
    simp [atQ, hk] at h4
    exact ⟨h4.1, h4.2.1, h4.2.2⟩
theorem ofX_cases (X : List Ox) (f : Int) : (ofX X f = -1 ∧ ∀ x, x ∈ X → ¬ (x.f ≤ f ∧ f < x.f + 8)) ∨ (∃ k : Nat, ofX X f = k ∧ ∃ h : k < X.length, X[k].f ≤ f ∧ f < X[k].f + 8) := by
  rcases fxN_cases (fun i => ofQ (X.getD i ox0) f) X.length 0 with ⟨h1, h2⟩ | ⟨k, h1, _, h3, h4, _⟩
  · refine .inl ⟨h1, fun x hx ⟨e2, e3⟩ => ?_⟩
    obtain ⟨j, hj, rfl⟩ := List.getElem_of_mem hx
    have := h2 j (by omega) (by omega)
    simp [ofQ, hj, e2] at this
    omega
  · refine .inr ⟨k, h1, by omega, ?_⟩
    have hk : k < X.length := by omega
    simp [ofQ, hk] at h4
    exact h4

theorem uniq_ap {X : List Ox} (h : X.Pairwise Apt) {a b : Ox} (ha : a ∈ X) (hb : b ∈ X) (e1 : a.s = b.s) (e2 : a.p = b.p) : a = b := by
  induction h with
  | nil => cases ha
  | cons h1 _ ih =>
    rcases List.mem_cons.mp ha with ea | ha'
    · rcases List.mem_cons.mp hb with eb | hb'
      · rw [ea, eb]
      · subst ea; have := (h1 b hb').1; omega
    · rcases List.mem_cons.mp hb with eb | hb'
      · subst eb; have := (h1 a ha').1; omega
      · exact ih ha' hb'

section
variable {L : List Rv} {X : List Ox} {T : Int}

theorem Inv.len (h : Inv L X T) : L.length = X.length := by
  obtain ⟨Y, h1, rfl, _⟩ := h.pm
  rw [List.length_map, h1.length_eq]
theorem Inv.perm (h : Inv L X T) : L.Perm (X.map Ox.rv) := by
  obtain ⟨Y, h1, rfl, _⟩ := h.pm
  exact h1.map _
theorem Inv.okL (h : Inv L X T) : ∀ x, x ∈ L → okR x.s x.p x.f ∧ x.b < 256 := by
  intro x hx
  obtain ⟨y, hy, rfl⟩ := List.mem_map.mp (h.perm.mem_iff.mp hx)
  exact h.ok y hy

/-- A page's reservation is there in both, or in neither. -/
theorem Inv.find (h : Inv L X T) (s y : Int) : (whI L s (y / 8 * 8) = -1 ∧ atX X s y = -1) ∨ ∃ k i j : Nat, whI L s (y / 8 * 8) = k ∧ atX X s y = i ∧ ∃ hk : k < L.length, ∃ hi : i < X.length, X[i].rv = L[k] ∧ X[i].s = s ∧ X[i].p = y / 8 * 8 ∧ y = X[i].p + j ∧ j < 8 ∧ y % 8 = j ∧ okR X[i].s X[i].p X[i].f ∧ X[i].b < 256 := by
  rcases atX_cases X s y with ⟨h1, h2⟩ | ⟨i, h1, hi, h3, h4, h5⟩
  · left
    refine ⟨?_, h1⟩
    rcases whI_cases L s (y / 8 * 8) with ⟨h6, _⟩ | ⟨k, _, hk, h7, h8⟩
    · exact h6
    · exfalso
      obtain ⟨x, hx, hxe⟩ := List.mem_map.mp (h.perm.mem_iff.mp (List.getElem_mem hk))
      have e1 : x.s = L[k].s := by rw [← hxe]; rfl
      have e2 : x.p = L[k].p := by rw [← hxe]; rfl
      have := (h.ok x hx).1
      exact h2 x hx ⟨by omega, by omega, by omega⟩
  · right
    have hm := List.getElem_mem hi
    obtain ⟨hok, hb⟩ := h.ok _ hm
    obtain ⟨_, hp0, hp1, hp8, _⟩ := id hok
    have hp : X[i].p = y / 8 * 8 := by omega
    rcases whI_cases L s (y / 8 * 8) with ⟨_, h6⟩ | ⟨k, h6, hk, h7, h8⟩
    · exfalso
      exact h6 X[i].rv (h.perm.mem_iff.mpr (List.mem_map.mpr ⟨_, hm, rfl⟩)) ⟨h3, hp⟩
    · refine ⟨k, i, (y - X[i].p).toNat, h6, h1, hk, hi, ?_, h3, hp, by omega, by omega, by omega, hok, hb⟩
      obtain ⟨x, hx, hxe⟩ := List.mem_map.mp (h.perm.mem_iff.mp (List.getElem_mem hk))
      have e1 : x.s = L[k].s := by rw [← hxe]; rfl
      have e2 : x.p = L[k].p := by rw [← hxe]; rfl
      have := uniq_ap h.ap hx hm (by omega) (by omega)
      rw [← this]; exact hxe

/-- A frame's, too. -/
theorem Inv.owner (h : Inv L X T) (f : Int) (h8 : f % 8 = 0) : (owF L f = none ∧ ofX X f = -1 ∧ ∀ x, x ∈ X → x.f ≠ f) ∨ ((owF L f).isSome = true ∧ 0 ≤ ofX X f) := by
  rcases ofX_cases X f with ⟨h1, h2⟩ | ⟨i, h1, hi, h3, h4⟩
  · left
    refine ⟨?_, h1, fun x hx e => h2 x hx (by omega)⟩
    unfold owF
    rw [List.find?_eq_none]
    intro r hr
    obtain ⟨x, hx, rfl⟩ := List.mem_map.mp (h.perm.mem_iff.mp hr)
    have := h2 x hx
    simp [Ox.rv]
    omega
  · right
    refine ⟨?_, by omega⟩
    have hok := (h.ok _ (List.getElem_mem hi)).1
    obtain ⟨_, _, _, _, hf0, hf1, hf8⟩ := hok
    unfold owF
    rw [List.find?_isSome]
    exact ⟨X[i].rv, h.perm.mem_iff.mpr (List.mem_map.mpr ⟨_, List.getElem_mem hi, rfl⟩), by simp [Ox.rv]; omega⟩

theorem Inv.made (h : Inv L X T) {s y f : Int} (hok : okR s y f) (h1 : whI L s y = -1) (h2 : ∀ x, x ∈ X → x.f ≠ f) {X' : List Ox} {g c : Nat} (hP : X'.Perm (⟨s, y, f, g, c, T + 1, 0⟩ :: X)) :
    Inv (L ++ [⟨s, y, f, 0⟩]) X' (T + 1) := by
  obtain ⟨Y, hY, rfl, hYp⟩ := h.pm
  have hm : ∀ x, x ∈ X' → x = ⟨s, y, f, g, c, T + 1, 0⟩ ∨ x ∈ X := fun x hx => by simpa using hP.mem_iff.mp hx
  refine ⟨⟨Y ++ [⟨s, y, f, g, c, T + 1, 0⟩], ?_, by simp [Ox.rv], ?_⟩, ?_, ?_, ?_, by have := h.t0; omega⟩
  · exact ((List.perm_append_singleton _ _).trans (hY.cons _)).trans hP.symm
  · rw [List.pairwise_append]
    refine ⟨hYp, by simp, fun a ha b hb => ?_⟩
    simp at hb; subst hb
    have := h.tt a (hY.mem_iff.mp ha)
    show a.t < T + 1
    omega
  · intro x hx
    rcases hm x hx with rfl | hx
    · exact Int.le_refl _
    · have := h.tt x hx; omega
  · refine (hP.pairwise_iff (fun {a b} (e : Apt a b) => e.symm)).mpr ?_
    rw [List.pairwise_cons]
    refine ⟨fun x hx => ⟨?_, fun e => h2 x hx e.symm⟩, h.ap⟩
    rcases whI_cases (Y.map Ox.rv) s y with ⟨_, h3⟩ | ⟨k, h3, _⟩
    · have := h3 x.rv (List.mem_map.mpr ⟨x, hY.mem_iff.mpr hx, rfl⟩)
      simp only [Ox.rv] at this
      show s ≠ x.s ∨ y ≠ x.p
      by_cases e1 : s = x.s
      · right; intro e2; exact this ⟨e1.symm, e2.symm⟩
      · exact .inl e1
    · rw [h1] at h3; omega
  · intro x hx
    rcases hm x hx with rfl | hx
    · exact ⟨hok, (show (0 : Nat) < 256 by decide)⟩
    · exact h.ok x hx

theorem Inv.split (h : Inv L X T) {k i : Nat} (hk : k < L.length) (hi : i < X.length) (e : X[i].rv = L[k]) :
    ∃ Y : List Ox, Y.Perm X ∧ L = Y.map Ox.rv ∧ Y.Pairwise (fun a b => a.t < b.t) ∧ ∃ hy : k < Y.length, Y[k] = X[i] ∧ (rmv Y k).Perm (rmv X i) := by
  obtain ⟨Y, hY, rfl, hYp⟩ := h.pm
  have hy : k < Y.length := by simpa using hk
  have e1 : Y[k].rv = X[i].rv := by rw [e]; simp
  have e2 : Y[k] = X[i] := uniq_ap h.ap (hY.mem_iff.mp (List.getElem_mem hy)) (List.getElem_mem hi) (by have := congrArg Rv.s e1; exact this) (by have := congrArg Rv.p e1; exact this)
  refine ⟨Y, hY, rfl, hYp, hy, e2, ?_⟩
  have h3 := rmv_perm hy
  have h4 := rmv_perm hi
  rw [e2] at h3
  exact (h3.symm.trans (hY.trans h4)).cons_inv

theorem Inv.set (h : Inv L X T) {k i : Nat} (hk : k < L.length) (hi : i < X.length) (e : X[i].rv = L[k]) {b' g c : Nat} (hb : b' < 256) :
    Inv (rmv L k ++ [⟨X[i].s, X[i].p, X[i].f, b'⟩]) (X.set i ⟨X[i].s, X[i].p, X[i].f, g, c, T + 1, b'⟩) (T + 1) := by
  obtain ⟨Y, hY, hL, hYp, hy, e2, hr⟩ := h.split hk hi e
  have hP := set_perm hi (⟨X[i].s, X[i].p, X[i].f, g, c, T + 1, b'⟩ : Ox)
  have hrm : ∀ x, x ∈ rmv X i → x ∈ X := fun x hx => (rmv_sub X i).subset hx
  have hm : ∀ x, x ∈ X.set i ⟨X[i].s, X[i].p, X[i].f, g, c, T + 1, b'⟩ → x = ⟨X[i].s, X[i].p, X[i].f, g, c, T + 1, b'⟩ ∨ x ∈ X := fun x hx => by
    rcases List.mem_cons.mp (hP.mem_iff.mp hx) with h | h
    · exact .inl h
    · exact .inr (hrm x h)
  refine ⟨⟨rmv Y k ++ [⟨X[i].s, X[i].p, X[i].f, g, c, T + 1, b'⟩], ?_, ?_, ?_⟩, ?_, ?_, ?_, by have := h.t0; omega⟩
  · exact ((List.perm_append_singleton _ _).trans (hr.cons _)).trans hP.symm
  · rw [List.map_append, map_rmv, ← hL]; rfl
  · rw [List.pairwise_append]
    refine ⟨hYp.sublist (rmv_sub Y k), by simp, fun a ha b hb => ?_⟩
    simp at hb; subst hb
    have := h.tt a (hrm a (hr.mem_iff.mp ha))
    show a.t < T + 1
    omega
  · intro x hx
    rcases hm x hx with rfl | hx
    · exact Int.le_refl _
    · have := h.tt x hx; omega
  · refine (hP.pairwise_iff (fun {a b} (e : Apt a b) => e.symm)).mpr ?_
    have h5 := ((rmv_perm hi).pairwise_iff (fun {a b} (e : Apt a b) => e.symm)).mp h.ap
    rw [List.pairwise_cons] at h5 ⊢
    exact ⟨fun x hx => h5.1 x hx, h5.2⟩
  · intro x hx
    rcases hm x hx with rfl | hx
    · exact ⟨(h.ok _ (List.getElem_mem hi)).1, hb⟩
    · exact h.ok x hx

theorem Inv.drop (h : Inv L X T) {k i : Nat} (hk : k < L.length) (hi : i < X.length) (e : X[i].rv = L[k]) : Inv (rmv L k) (rmv X i) T := by
  obtain ⟨Y, hY, hL, hYp, hy, e2, hr⟩ := h.split hk hi e
  have hrm : ∀ x, x ∈ rmv X i → x ∈ X := fun x hx => (rmv_sub X i).subset hx
  exact ⟨⟨rmv Y k, hr, by rw [map_rmv, ← hL], hYp.sublist (rmv_sub Y k)⟩, fun x hx => h.tt x (hrm x hx), h.ap.sublist (rmv_sub X i), fun x hx => h.ok x (hrm x hx), h.t0⟩

/-- The one touched first is the first one. -/
theorem Inv.least (h : Inv L X T) {m : Nat} (hm : m < X.length) (hmin : ∀ j, (hj : j < X.length) → X[m].t ≤ X[j].t) : ∃ hl : 0 < L.length, X[m].rv = L[0] := by
  obtain ⟨Y, hY, rfl, hYp⟩ := h.pm
  have hl : 0 < Y.length := by rw [hY.length_eq]; omega
  refine ⟨by simpa using hl, ?_⟩
  obtain ⟨j, hj, e⟩ := List.getElem_of_mem (hY.mem_iff.mpr (List.getElem_mem hm))
  by_cases j0 : j = 0
  · subst j0; simp [← e]
  · have h1 := List.pairwise_iff_getElem.mp hYp 0 j hl hj (by omega)
    obtain ⟨i, hi, e2⟩ := List.getElem_of_mem (hY.mem_iff.mp (List.getElem_mem hl))
    have h2 := hmin i hi
    rw [e2] at h2
    rw [e] at h1
    omega
end

end Go.Proofs.Ytmbgebmhdofdaaa
