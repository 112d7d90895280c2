/- Compounds, in plain: the reference's are the program's, in another order. -/
import Derived.Test.YtdomdjfecnbenaaN
import Derived.Test.YtdomdjfecnbenaaIns
set_option linter.unusedVariables false
set_option linter.unusedSimpArgs false
namespace Go.Proofs.Ytdomdjfecnbenaa
open Go.RowKit Go.Own

/-- A compound of the reference: its frame, the slice of its lost bits, since when, (and the bits). -/
structure On where
  f : Int
  g : Nat
  c : Nat
  s : Int
  b : Nat
def On.cp (x : On) : Cp := ⟨x.f, x.b⟩

def atN (X : List On) (f : Int) : Nat → Nat → Int
  | _, 0 => -1
  | i, n + 1 => if (X.getD i ⟨0, 0, 0, 0, 0⟩).f ≤ f ∧ f < (X.getD i ⟨0, 0, 0, 0, 0⟩).f + 8 then i else atN X f (i + 1) n
/-- The place of a frame's compound, in the reference. -/
def atX (X : List On) (f : Int) : Int := atN X f 0 X.length
theorem atN_hit {L : List On} {f : Int} {i n : Nat} (h0 : 0 < n) (hi : i < L.length) (h : L[i].f ≤ f ∧ f < L[i].f + 8) : atN L f i n = i := by
  obtain ⟨m, rfl⟩ : ∃ m, n = m + 1 := ⟨n - 1, by omega⟩
  simp [atN, hi, h]
theorem atN_miss {L : List On} {f : Int} {i n : Nat} (h0 : 0 < n) (hi : i < L.length) (h : ¬ (L[i].f ≤ f ∧ f < L[i].f + 8)) : atN L f i n = atN L f (i + 1) (n - 1) := by
  obtain ⟨m, rfl⟩ : ∃ m, n = m + 1 := ⟨n - 1, by omega⟩
  simp [atN, hi]
  omega
theorem atN_cases (L : List On) (f : Int) : ∀ n i, i + n = L.length → (atN L f i n = -1 ∧ ∀ j, i ≤ j → (h : j < L.length) → ¬ (L[j].f ≤ f ∧ f < L[j].f + 8)) ∨ (∃ k : Nat, atN L f i n = k ∧ i ≤ k ∧ ∃ h : k < L.length, L[k].f ≤ f ∧ f < L[k].f + 8) := by
  intro n
  induction n with
  | zero => intro i h; exact .inl ⟨rfl, fun j hj hl => by omega⟩
  | succ n ih =>
    intro i h
    by_cases c : L[i].f ≤ f ∧ f < L[i].f + 8
    · exact .inr ⟨i, atN_hit (by omega) (by omega) c, Nat.le_refl _, by omega, c⟩
    · rw [atN_miss (by omega) (by omega) c, Nat.succ_sub_one]
      rcases ih (i + 1) (by omega) with ⟨h1, h2⟩ | ⟨k, h1, h2, h3, h4⟩
      · refine .inl ⟨h1, fun j hj hl => ?_⟩
        by_cases e : j = i
        · subst e; exact c
        · exact h2 j (by omega) hl
      · exact .inr ⟨k, h1, by omega, h3, h4⟩
theorem atX_cases (L : List On) (f : Int) : (atX L f = -1 ∧ ∀ j, (h : j < L.length) → ¬ (L[j].f ≤ f ∧ f < L[j].f + 8)) ∨ (∃ k : Nat, atX L f = k ∧ ∃ h : k < L.length, L[k].f ≤ f ∧ f < L[k].f + 8) := by
  rcases atN_cases L f L.length 0 (by omega) with ⟨h1, h2⟩ | ⟨k, h1, _, h3, h4⟩
  · exact .inl ⟨h1, fun j h => h2 j (by omega) h⟩
  · exact .inr ⟨k, h1, h3, h4⟩

theorem mid_at {α : Type} {L : List α} {k : Nat} (hk : k < L.length) : L = L.take k ++ L[k] :: L.drop (k + 1) := by
  rw [← List.drop_eq_getElem_cons hk, List.take_append_drop]
theorem set_at {α : Type} {L : List α} {k : Nat} (hk : k < L.length) (y : α) : L.set k y = L.take k ++ y :: L.drop (k + 1) := by
  rw [List.set_eq_take_append_cons_drop, if_pos hk]
theorem rmv_perm {α : Type} {L : List α} {k : Nat} (hk : k < L.length) : L.Perm (L[k] :: rmv L k) := by
  conv => lhs; rw [mid_at hk]
  exact List.perm_middle
theorem set_perm {α : Type} {L : List α} {k : Nat} (hk : k < L.length) (y : α) : (L.set k y).Perm (y :: rmv L k) := by
  rw [set_at hk]; exact List.perm_middle
theorem ins_perm {α : Type} (L : List α) (i : Nat) (y : α) : (insAt L i y).Perm (y :: L) := by
  unfold insAt
  refine List.perm_middle.trans ?_
  rw [List.take_append_drop]

theorem ixN_no (L : List Int) (f : Int) : ∀ n i, i + n = L.length → ixN L f i n = -1 → ∀ j, i ≤ j → (h : j < L.length) → L[j] ≠ f := by
  intro n
  induction n with
  | zero => intro i h _ j hj hl; omega
  | succ n ih =>
    intro i h h1 j hj hl
    by_cases c : L[i] = f
    · rw [ixN_hit (by omega) (by omega) c] at h1; omega
    · rw [ixN_miss (by omega) (by omega) c, Nat.succ_sub_one] at h1
      by_cases e : j = i
      · subst e; exact c
      · exact ih (i + 1) (by omega) h1 j (by omega) hl
theorem ixN_cases' (Q : List Int) (f : Int) : (ixI Q f = -1 ∧ f ∉ Q) ∨ (∃ k : Nat, ixI Q f = k ∧ ∃ h : k < Q.length, Q[k] = f) := by
  rcases ixI_cases Q f with h1 | h1
  · refine .inl ⟨h1, fun hf => ?_⟩
    obtain ⟨j, hj, e⟩ := List.getElem_of_mem hf
    exact ixN_no Q f Q.length 0 (by omega) h1 j (by omega) hj e
  · exact .inr h1

/-- Both say the same. -/
structure Inv (L : List Cp) (Q : List Int) (X : List On) (T : Int) : Prop where
  pm : L.Perm (X.map On.cp)
  so : L.Pairwise (fun a b => a.f < b.f)
  fr : ∀ c, c ∈ L → 0 ≤ c.f ∧ c.f ≤ 1016 ∧ c.f % 8 = 0 ∧ c.b < 255
  qn : Q.Nodup
  qm : ∀ f, f ∈ Q ↔ ∃ c, c ∈ L ∧ c.f = f ∧ c.b ≠ 0
  si : ∀ x, x ∈ X → (x.b = 0 → x.s = 0) ∧ (x.b ≠ 0 → 1 ≤ x.s ∧ x.s ≤ T)
  t0 : 0 ≤ T

theorem Inv.start : Inv [] [] [] 0 := ⟨List.Perm.refl _, List.Pairwise.nil, by simp, List.nodup_nil, by simp, by simp, by omega⟩

section
variable {L : List Cp} {Q : List Int} {X : List On} {T : Int}

theorem so_ne (h : L.Pairwise (fun a b => a.f < b.f)) {k : Nat} (hk : k < L.length) : (∀ c, c ∈ L.take k → c.f < L[k].f) ∧ (∀ c, c ∈ L.drop (k + 1) → L[k].f < c.f) := by
  rw [mid_at hk, List.pairwise_append, List.pairwise_cons] at h
  exact ⟨fun c hc => h.2.2 c hc _ (List.mem_cons_self ..), h.2.1.1⟩
theorem mem_rmv (h : L.Pairwise (fun a b => a.f < b.f)) {k : Nat} (hk : k < L.length) (c : Cp) : c ∈ rmv L k ↔ c ∈ L ∧ c.f ≠ L[k].f := by
  obtain ⟨h1, h2⟩ := so_ne h hk
  constructor
  · intro hc
    rcases List.mem_append.mp hc with hc | hc
    · exact ⟨List.mem_of_mem_take hc, by have := h1 c hc; omega⟩
    · exact ⟨List.mem_of_mem_drop hc, by have := h2 c hc; omega⟩
  · rintro ⟨hc, hn⟩
    have hp := (rmv_perm hk).mem_iff.mp hc
    rcases List.mem_cons.mp hp with rfl | hp
    · exact absurd rfl hn
    · exact hp
theorem mem_set (h : L.Pairwise (fun a b => a.f < b.f)) {k : Nat} (hk : k < L.length) (c y : Cp) : c ∈ L.set k y ↔ c = y ∨ (c ∈ L ∧ c.f ≠ L[k].f) := by
  rw [(set_perm hk y).mem_iff, List.mem_cons, mem_rmv h hk]
theorem mem_uniq (h : L.Pairwise (fun a b => a.f < b.f)) {a b : Cp} (ha : a ∈ L) (hb : b ∈ L) (e : a.f = b.f) : a = b := by
  obtain ⟨k, hk, rfl⟩ := List.getElem_of_mem ha
  have hp := (rmv_perm hk).mem_iff.mp hb
  rcases List.mem_cons.mp hp with rfl | hp
  · rfl
  · exact absurd e.symm ((mem_rmv h hk b).mp hp).2
theorem so_rmv (h : L.Pairwise (fun a b => a.f < b.f)) (k : Nat) : (rmv L k).Pairwise (fun a b => a.f < b.f) := by
  refine h.sublist ?_
  unfold rmv
  have := List.Sublist.append (List.Sublist.refl (L.take k)) (List.drop_sublist_drop_left L (show k ≤ k + 1 by omega))
  rwa [List.take_append_drop] at this
theorem so_set (h : L.Pairwise (fun a b => a.f < b.f)) {k : Nat} (hk : k < L.length) {y : Cp} (hy : y.f = L[k].f) : (L.set k y).Pairwise (fun a b => a.f < b.f) := by
  rw [set_at hk]
  rw [mid_at hk, List.pairwise_append, List.pairwise_cons] at h
  rw [List.pairwise_append, List.pairwise_cons]
  refine ⟨h.1, ⟨fun c hc => by rw [hy]; exact h.2.1.1 c hc, h.2.1.2⟩, fun a ha b hb => ?_⟩
  rcases List.mem_cons.mp hb with rfl | hb
  · rw [hy]; exact h.2.2 a ha _ (List.mem_cons_self ..)
  · exact h.2.2 a ha b (List.mem_cons_of_mem _ hb)

theorem mem_lvQ (hq : Q.Nodup) (f g : Int) : g ∈ lvQ Q f ↔ g ∈ Q ∧ g ≠ f := by
  unfold lvQ
  rcases ixN_cases' Q f with ⟨h1, h2⟩ | ⟨k, h1, hk, h3⟩
  · rw [if_pos h1]
    exact ⟨fun hg => ⟨hg, fun e => h2 (e ▸ hg)⟩, fun h => h.1⟩
  · rw [if_neg (by omega), h1, Int.toNat_natCast]
    have hp := rmv_perm hk
    have hn := (hp.nodup_iff).mp hq
    rw [List.nodup_cons] at hn
    constructor
    · intro hg
      exact ⟨hp.mem_iff.mpr (List.mem_cons_of_mem _ hg), fun e => hn.1 (by rw [h3, ← e]; exact hg)⟩
    · rintro ⟨hg, hne⟩
      rcases List.mem_cons.mp (hp.mem_iff.mp hg) with e | hg
      · exact absurd (e.trans h3) hne
      · exact hg
theorem nodup_lvQ (hq : Q.Nodup) (f : Int) : (lvQ Q f).Nodup := by
  unfold lvQ
  rcases ixI_cases Q f with h1 | ⟨k, h1, hk, h3⟩
  · rw [if_pos h1]; exact hq
  · rw [if_neg (by omega), h1, Int.toNat_natCast]
    have hn := ((rmv_perm hk).nodup_iff).mp hq
    exact (List.nodup_cons.mp hn).2

theorem Inv.here (h : Inv L Q X T) {k i : Nat} (hk : k < L.length) (hi : i < X.length) (e : X[i].f = L[k].f) : X[i].cp = L[k] := by
  have h1 : X[i].cp ∈ L := h.pm.mem_iff.mpr (List.mem_map.mpr ⟨_, List.getElem_mem hi, rfl⟩)
  exact mem_uniq h.so h1 (List.getElem_mem hk) e

/-- A frame's compound is there in both, or in neither. -/
theorem Inv.find (h : Inv L Q X T) (f : Int) : (whA L f = -1 ∧ atX X f = -1) ∨ ∃ k i : Nat, ∃ x : Nat, f = x ∧ x < 1024 ∧ whI L ((x / 8 * 8 : Nat) : Int) = k ∧ whA L f = k ∧ atX X f = i ∧ ∃ hk : k < L.length, ∃ hi : i < X.length, X[i].cp = L[k] ∧ L[k].f = ((x / 8 * 8 : Nat) : Int) ∧ X[i].f ≤ f ∧ f < X[i].f + 8 := by
  rcases atX_cases X f with ⟨h1, h2⟩ | ⟨i, h1, hi, h3⟩
  · left
    refine ⟨?_, h1⟩
    unfold whA
    by_cases h0 : f < 0
    · rw [if_pos h0]
    · rw [if_neg h0]
      rcases whI_cases L ((f.toNat / 8 * 8 : Nat) : Int) with ⟨h4, _⟩ | ⟨k, h4, hk, h5⟩
      · exact h4
      · exfalso
        have h6 : L[k] ∈ X.map On.cp := h.pm.mem_iff.mp (List.getElem_mem hk)
        obtain ⟨x, hx, h7⟩ := List.mem_map.mp h6
        obtain ⟨j, hj, rfl⟩ := List.getElem_of_mem hx
        have h8 : X[j].f = L[k].f := by rw [← h7]; rfl
        exact h2 j hj (by omega)
  · right
    have h4 : X[i].cp ∈ L := h.pm.mem_iff.mpr (List.mem_map.mpr ⟨_, List.getElem_mem hi, rfl⟩)
    have h5 := h.fr _ h4
    have h6 : X[i].cp.f = X[i].f := rfl
    obtain ⟨x, rfl⟩ := Int.eq_ofNat_of_zero_le (show 0 ≤ f by omega)
    have h7 : ((x / 8 * 8 : Nat) : Int) = X[i].f := by omega
    obtain ⟨k, hk, hkx⟩ := List.getElem_of_mem h4
    rcases whI_cases L ((x / 8 * 8 : Nat) : Int) with ⟨_, h9⟩ | ⟨k', h8, hk', h9⟩
    · exact absurd (by rw [hkx]; omega) (h9 k hk)
    · refine ⟨k', i, x, rfl, by omega, h8, ?_, h1, hk', hi, h.here hk' hi (by omega), h9, h3⟩
      unfold whA
      rw [if_neg (by omega)]
      exact h8

/-- Behind Make. -/
theorem Inv.made (h : Inv L Q X T) {f : Int} (h0 : 0 ≤ f ∧ f ≤ 1016) (h8 : f % 8 = 0) (hn : whA L f = -1) {i : Nat} (hi : i ≤ L.length) (hlt : ∀ j, (hj : j < L.length) → j < i → L[j].f < f) (hge : ∀ (hj : i < L.length), f ≤ L[i].f) (gg cc : Nat) :
    Inv (insAt L i ⟨f, 0⟩) Q (X ++ [⟨f, gg, cc, 0, 0⟩]) T := by
  have hne : ∀ c, c ∈ L → c.f ≠ f := by
    intro c hc e
    obtain ⟨j, hj, rfl⟩ := List.getElem_of_mem hc
    unfold whA at hn
    rw [if_neg (by omega)] at hn
    rcases whI_cases L ((f.toNat / 8 * 8 : Nat) : Int) with ⟨_, h9⟩ | ⟨k', h8, _⟩
    · exact h9 j hj (by omega)
    · omega
  have hp := ins_perm L i ⟨f, 0⟩
  have hm : ∀ c, c ∈ insAt L i ⟨f, 0⟩ ↔ c = ⟨f, 0⟩ ∨ c ∈ L := fun c => by rw [hp.mem_iff, List.mem_cons]
  refine ⟨?_, ?_, ?_, h.qn, ?_, ?_, h.t0⟩
  · refine hp.trans ?_
    rw [List.map_append]
    exact (List.Perm.cons _ h.pm).trans (List.perm_append_singleton _ _).symm
  · unfold insAt
    have hs := h.so
    rw [← List.take_append_drop i L, List.pairwise_append] at hs
    rw [List.pairwise_append, List.pairwise_cons]
    have ha : ∀ a, a ∈ L.take i → a.f < f := by
      intro a ha
      obtain ⟨j, hj, rfl⟩ := List.getElem_of_mem ha
      rw [List.length_take] at hj
      rw [List.getElem_take]
      exact hlt j (by omega) (by omega)
    have hb : ∀ b, b ∈ L.drop i → f < b.f := by
      intro b hb
      have h1 := hne b (List.mem_of_mem_drop hb)
      have h2 : f ≤ b.f := by
        by_cases hil : i < L.length
        · have h3 := hge hil
          rw [List.drop_eq_getElem_cons hil] at hb hs
          rcases List.mem_cons.mp hb with rfl | hb
          · exact h3
          · have := (List.pairwise_cons.mp hs.2.1).1 b hb; omega
        · rw [List.drop_of_length_le (by omega)] at hb; cases hb
      omega
    refine ⟨hs.1, ⟨hb, hs.2.1⟩, fun a h1 b h2 => ?_⟩
    rcases List.mem_cons.mp h2 with rfl | h2
    · exact ha a h1
    · exact hs.2.2 a h1 b h2
  · intro c hc
    rcases (hm c).mp hc with rfl | hc
    · exact ⟨h0.1, h0.2, h8, (show (0 : Nat) < 255 by decide)⟩
    · exact h.fr c hc
  · intro g
    rw [h.qm g]
    constructor
    · rintro ⟨c, hc, h1, h2⟩; exact ⟨c, (hm c).mpr (.inr hc), h1, h2⟩
    · rintro ⟨c, hc, h1, h2⟩
      rcases (hm c).mp hc with rfl | hc
      · exact absurd rfl h2
      · exact ⟨c, hc, h1, h2⟩
  · intro x hx
    rcases List.mem_append.mp hx with hx | hx
    · exact h.si x hx
    · simp at hx; subst hx; exact ⟨fun _ => rfl, fun h => absurd rfl h⟩

/-- Behind a change of one. -/
theorem Inv.set (h : Inv L Q X T) {k i : Nat} (hk : k < L.length) (hi : i < X.length) (e : X[i].cp = L[k]) {b gg cc : Nat} {s : Int} {Q' : List Int} {T' : Int} (hb : b < 255) (hT : T ≤ T')
    (hs : (b = 0 → s = 0) ∧ (b ≠ 0 → 1 ≤ s ∧ s ≤ T')) (hqn : Q'.Nodup) (hq : ∀ g, g ∈ Q' ↔ (g ∈ Q ∧ g ≠ L[k].f) ∨ (g = L[k].f ∧ b ≠ 0)) :
    Inv (L.set k ⟨L[k].f, b⟩) Q' (X.set i ⟨X[i].f, gg, cc, s, b⟩) T' := by
  have ef : X[i].f = L[k].f := by rw [← e]; rfl
  refine ⟨?_, so_set h.so hk rfl, ?_, hqn, ?_, ?_, by have := h.t0; omega⟩
  · rw [List.map_set]
    have h1 : (X.map On.cp).length = X.length := List.length_map _
    have h2 := rmv_perm hk
    have h3 := rmv_perm (L := X.map On.cp) (k := i) (by omega)
    rw [List.getElem_map, e] at h3
    have h4 : (rmv L k).Perm (rmv (X.map On.cp) i) := (h2.symm.trans (h.pm.trans h3)).cons_inv
    refine (set_perm hk _).trans (.trans ?_ (set_perm (L := X.map On.cp) (k := i) (by omega) _).symm)
    show ((⟨L[k].f, b⟩ : Cp) :: rmv L k).Perm ((⟨X[i].f, b⟩ : Cp) :: rmv (X.map On.cp) i)
    rw [ef]
    exact h4.cons _
  · intro c hc
    rcases (mem_set h.so hk c _).mp hc with rfl | ⟨hc, _⟩
    · have := h.fr _ (List.getElem_mem hk); exact ⟨this.1, this.2.1, this.2.2.1, hb⟩
    · exact h.fr c hc
  · intro g
    rw [hq g]
    constructor
    · rintro (⟨h1, h2⟩ | ⟨e9, h2⟩)
      · obtain ⟨c, hc, h3, h4⟩ := (h.qm g).mp h1
        exact ⟨c, (mem_set h.so hk c _).mpr (.inr ⟨hc, by omega⟩), h3, h4⟩
      · exact ⟨(⟨L[k].f, b⟩ : Cp), (mem_set h.so hk _ _).mpr (.inl rfl), e9.symm, h2⟩
    · rintro ⟨c, hc, h1, h2⟩
      rcases (mem_set h.so hk c _).mp hc with rfl | ⟨hc, h3⟩
      · exact .inr ⟨h1.symm, h2⟩
      · exact .inl ⟨(h.qm g).mpr ⟨c, hc, h1, h2⟩, by omega⟩
  · intro x hx
    rcases List.mem_or_eq_of_mem_set hx with hx | rfl
    · have := h.si x hx; exact ⟨this.1, fun hn => by have := this.2 hn; omega⟩
    · exact hs

/-- Behind the end of one. -/
theorem Inv.drop (h : Inv L Q X T) {k i : Nat} (hk : k < L.length) (hi : i < X.length) (e : X[i].cp = L[k]) {Q' : List Int} {T' : Int} (hT : T ≤ T') (hqn : Q'.Nodup) (hq : ∀ g, g ∈ Q' ↔ (g ∈ Q ∧ g ≠ L[k].f)) :
    Inv (rmv L k) Q' (rmv X i) T' := by
  refine ⟨?_, so_rmv h.so k, ?_, hqn, ?_, ?_, by have := h.t0; omega⟩
  · have h2 := rmv_perm hk
    have h1 : (X.map On.cp).length = X.length := List.length_map _
    have h3 := rmv_perm (L := X.map On.cp) (k := i) (by omega)
    rw [List.getElem_map, e] at h3
    have h5 : (rmv X i).map On.cp = rmv (X.map On.cp) i := by simp [rmv]
    rw [h5]
    exact (h2.symm.trans (h.pm.trans h3)).cons_inv
  · intro c hc; exact h.fr c ((mem_rmv h.so hk c).mp hc).1
  · intro g
    rw [hq g]
    constructor
    · rintro ⟨h1, h2⟩
      obtain ⟨c, hc, h3, h4⟩ := (h.qm g).mp h1
      exact ⟨c, (mem_rmv h.so hk c).mpr ⟨hc, by omega⟩, h3, h4⟩
    · rintro ⟨c, hc, h1, h2⟩
      obtain ⟨hc, h3⟩ := (mem_rmv h.so hk c).mp hc
      exact ⟨(h.qm g).mpr ⟨c, hc, h1, h2⟩, by omega⟩
  · intro x hx
    have hx' : x ∈ X := by
      rcases List.mem_append.mp hx with h | h
      · exact List.mem_of_mem_take h
      · exact List.mem_of_mem_drop h
    have := h.si x hx'; exact ⟨this.1, fun hn => by have := this.2 hn; omega⟩
end

end Go.Proofs.Ytdomdjfecnbenaa
