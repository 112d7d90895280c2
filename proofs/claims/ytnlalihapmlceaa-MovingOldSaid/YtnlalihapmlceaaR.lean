/- Moves: the program's moves are the reference's rows, read in order. -/
import Derived.Test.YtnlalihapmlceaaQ
import Derived.Test.YtnlalihapmlceaaJ
set_option linter.unusedVariables false
set_option linter.unusedSimpArgs false
namespace Go.Proofs.Ytnlalihapmlceaa
open Go.RowKit Go.Own

def mk (T S A : List Int) (i : Nat) : Mv := ⟨i, gi T i - 1, gi S i, gi A i⟩
def rowsN (T S A : List Int) : Nat → Nat → List Mv
  | _, 0 => []
  | i, n + 1 => if 0 < gi S i then mk T S A i :: rowsN T S A (i + 1) n else rowsN T S A (i + 1) n
/-- The moves that the rows tell. -/
def rows (T S A : List Int) : List Mv := rowsN T S A 0 1024

theorem rowsN_app (T S A : List Int) (n : Nat) : ∀ m i, rowsN T S A i (m + n) = rowsN T S A i m ++ rowsN T S A (i + m) n := by
  intro m
  induction m with
  | zero => intro i; simp [rowsN]
  | succ m ih =>
    intro i
    rw [show m + 1 + n = (m + n) + 1 by omega, show i + (m + 1) = i + 1 + m by omega]
    simp only [rowsN]
    split
    · rw [ih, List.cons_append]
    · rw [ih]
theorem rowsN_congr {T S A T' S' A' : List Int} : ∀ n i, (∀ j, i ≤ j → j < i + n → gi T j = gi T' j ∧ gi S j = gi S' j ∧ gi A j = gi A' j) → rowsN T S A i n = rowsN T' S' A' i n := by
  intro n
  induction n with
  | zero => intro i h; rfl
  | succ n ih =>
    intro i h
    obtain ⟨h1, h2, h3⟩ := h i (by omega) (by omega)
    simp only [rowsN, mk, h1, h2, h3]
    rw [ih (i + 1) fun j h4 h5 => h j (by omega) (by omega)]
theorem mem_rowsN {T S A : List Int} {x : Mv} : ∀ n i, x ∈ rowsN T S A i n ↔ ∃ j, i ≤ j ∧ j < i + n ∧ 0 < gi S j ∧ x = mk T S A j := by
  intro n
  induction n with
  | zero => intro i; simp [rowsN]; intro j h1 h2; omega
  | succ n ih =>
    intro i
    simp only [rowsN]
    constructor
    · intro h
      split at h
      · rcases List.mem_cons.mp h with rfl | h
        · exact ⟨i, by omega, by omega, by assumption, rfl⟩
        · obtain ⟨j, h1, h2, h3, h4⟩ := (ih (i + 1)).mp h
          exact ⟨j, by omega, by omega, h3, h4⟩
      · obtain ⟨j, h1, h2, h3, h4⟩ := (ih (i + 1)).mp h
        exact ⟨j, by omega, by omega, h3, h4⟩
    · rintro ⟨j, h1, h2, h3, rfl⟩
      by_cases e : j = i
      · subst e; rw [if_pos h3]; exact List.mem_cons_self ..
      · have := (ih (i + 1)).mpr ⟨j, by omega, by omega, h3, rfl⟩
        split
        · exact List.mem_cons_of_mem _ this
        · exact this
theorem mem_rows {T S A : List Int} {x : Mv} : x ∈ rows T S A ↔ ∃ j, j < 1024 ∧ 0 < gi S j ∧ x = mk T S A j := by
  unfold rows; rw [mem_rowsN]
  constructor
  · rintro ⟨j, _, h2, h3, h4⟩; exact ⟨j, by omega, h3, h4⟩
  · rintro ⟨j, h2, h3, h4⟩; exact ⟨j, by omega, by omega, h3, h4⟩
theorem rowsN_one (T S A : List Int) (i : Nat) : rowsN T S A i 1 = if 0 < gi S i then [mk T S A i] else [] := rfl
theorem rowsN_length (T S A : List Int) : ∀ k, (rowsN T S A 0 k).length = rlenN S k := by
  intro k
  induction k with
  | zero => rfl
  | succ k ih =>
    rw [rowsN_app, List.length_append, ih, Nat.zero_add, rowsN_one]
    simp only [rlenN]
    split <;> rfl
theorem rows_split (T S A : List Int) {f : Nat} (hf : f < 1024) : rows T S A = rowsN T S A 0 f ++ ((if 0 < gi S f then [mk T S A f] else []) ++ rowsN T S A (f + 1) (1023 - f)) := by
  unfold rows
  rw [show (1024 : Nat) = f + (1 + (1023 - f)) by omega, rowsN_app, rowsN_app, Nat.zero_add, rowsN_one]
theorem find_rows (T S A : List Int) (f : Int) : ∀ n i, findM (rowsN T S A i n) f = (rfindN T S f i n).map (mk T S A) := by
  intro n
  induction n with
  | zero => intro i; rfl
  | succ n ih =>
    intro i
    simp only [rowsN, rfindN]
    by_cases h0 : 0 < gi S i
    · rw [if_pos h0]
      unfold findM at ih ⊢
      by_cases h1 : (i : Int) = f ∨ gi T i - 1 = f
      · have hp : (fun x : Mv => decide (x.f = f ∨ x.t = f)) (mk T S A i) = true := decide_eq_true h1
        rw [List.find?_cons_of_pos (p := fun x : Mv => decide (x.f = f ∨ x.t = f)) hp, if_pos ⟨h0, h1⟩]; rfl
      · have hp : ¬ (fun x : Mv => decide (x.f = f ∨ x.t = f)) (mk T S A i) = true := fun h => h1 (of_decide_eq_true h)
        rw [List.find?_cons_of_neg (p := fun x : Mv => decide (x.f = f ∨ x.t = f)) hp, if_neg (fun h => h1 h.2), ih]
    · rw [if_neg h0, if_neg (fun h => h0 h.1), ih]
theorem find_eq {T S A : List Int} (hs : S.length = 1024) (f : Int) : findM (rows T S A) f = rfind T S A f := by
  unfold rows rfind; rw [find_rows, hs]; rfl

structure Good (T S A : List Int) (k : Int) : Prop where
  lt : T.length = 1024
  ls : S.length = 1024
  la : A.length = 1024
  st : ∀ i, i < 1024 → gi S i = 0 ∨ gi S i = 1 ∨ gi S i = 2
  tt : ∀ i, i < 1024 → 0 < gi S i → 1 ≤ gi T i ∧ gi T i ≤ 1024
  ag : ∀ i, i < 1024 → 0 ≤ gi A i ∧ gi A i ≤ k
  ds : ∀ i j, i < 1024 → j < 1024 → 0 < gi S i → 0 < gi S j → gi T i - 1 ≠ j ∧ (i ≠ j → gi T i ≠ gi T j)

theorem idx_mid {P R : List Mv} {x : Mv} {f : Int} {k : Nat} (h1 : ∀ y, y ∈ P → y.f ≠ f) (h2 : ∀ y, y ∈ R → y.f ≠ f) (hk : k < (P ++ x :: R).length) (h : (P ++ x :: R)[k].f = f) : k = P.length := by
  rcases Nat.lt_trichotomy k P.length with h3 | h3 | h3
  · rw [List.getElem_append_left h3] at h
    exact absurd h (h1 _ (List.getElem_mem h3))
  · exact h3
  · exfalso
    rw [List.getElem_append_right (by omega)] at h
    obtain ⟨m, hm⟩ : ∃ m, k - P.length = m + 1 := ⟨k - P.length - 1, by omega⟩
    simp only [hm, List.getElem_cons_succ] at h
    exact h2 _ (List.getElem_mem _) h

section
variable {T S A : List Int} {k : Int}
theorem lo_ne (T S A : List Int) (f : Nat) : ∀ y, y ∈ rowsN T S A 0 f → y.f < (f : Int) := by
  intro y hy
  obtain ⟨j, _, h2, _, rfl⟩ := (mem_rowsN _ _).mp hy
  simp only [mk]; omega
theorem hi_ne (T S A : List Int) (f n : Nat) : ∀ y, y ∈ rowsN T S A (f + 1) n → (f : Int) < y.f := by
  intro y hy
  obtain ⟨j, h1, h2, _, rfl⟩ := (mem_rowsN _ _).mp hy
  simp only [mk]; omega

/-- A frame that moves: where its move lies. -/
theorem of_yes {f : Nat} (hf : f < 1024) (hs : 0 < gi S f) : ofI (rows T S A) f = (rowsN T S A 0 f).length ∧ rows T S A = rowsN T S A 0 f ++ mk T S A f :: rowsN T S A (f + 1) (1023 - f) := by
  have e := rows_split T S A hf
  rw [if_pos hs, List.singleton_append] at e
  refine ⟨?_, e⟩
  rcases ofI_cases (rows T S A) f with ⟨h1, h2⟩ | ⟨k, h1, hk, h3⟩
  · exfalso
    have hm : mk T S A f ∈ rows T S A := mem_rows.mpr ⟨f, hf, hs, rfl⟩
    obtain ⟨i, hi, hx⟩ := List.getElem_of_mem hm
    exact h2 i hi (by rw [hx]; rfl)
  · rw [h1]
    simp only [e] at hk h3
    have := idx_mid (fun y hy => by have := lo_ne T S A f y hy; omega) (fun y hy => by have := hi_ne T S A f _ y hy; omega) hk h3
    rw [this]
theorem of_no {f : Int} (h : rmeet S f ≤ 0) : ofI (rows T S A) f = -1 := by
  rcases ofI_cases (rows T S A) f with ⟨h1, h2⟩ | ⟨k, h1, hk, h3⟩
  · exact h1
  · exfalso
    obtain ⟨j, hj, hs, hx⟩ := mem_rows.mp (List.getElem_mem hk)
    rw [hx] at h3
    simp only [mk] at h3
    subst h3
    unfold rmeet at h
    rw [if_pos (frameR_iff.2 ⟨by omega, by omega⟩)] at h
    simp only [Int.toNat_natCast] at h
    omega
theorem rmeet_nat {f : Nat} (hf : f < 1024) : rmeet S f = gi S f := by
  unfold rmeet; rw [if_pos (frameR_iff.2 ⟨by omega, by omega⟩)]; rfl
theorem rmeet_cases (h : Good T S A k) (f : Int) : (rmeet S f = 0 ∧ ofI (rows T S A) f = -1) ∨ ∃ g : Nat, f = g ∧ g < 1024 ∧ rmeet S f = gi S g ∧ (gi S g = 1 ∨ gi S g = 2) := by
  by_cases hf : frameR f = true
  · obtain ⟨f0, f1⟩ := frameR_iff.1 hf
    obtain ⟨g, rfl⟩ := Int.eq_ofNat_of_zero_le f0
    have e := rmeet_nat (S := S) (f := g) (by omega)
    rcases h.st g (by omega) with h0 | h0
    · exact .inl ⟨by rw [e, h0], of_no (by rw [e, h0]; omega)⟩
    · exact .inr ⟨g, rfl, by omega, e, h0⟩
  · have e : rmeet S f = 0 := by unfold rmeet; rw [if_neg hf]
    exact .inl ⟨e, of_no (by omega)⟩

theorem getD_mid {P R : List Mv} {x y : Mv} : (P ++ x :: R).getD P.length y = x := by
  rw [List.getD_eq_getElem?_getD, List.getElem?_append_right (Nat.le_refl _), Nat.sub_self]; rfl
theorem set_mid {P R : List Mv} {x y : Mv} : (P ++ x :: R).set P.length y = P ++ y :: R := by
  rw [List.set_append_right _ _ (Nat.le_refl _), Nat.sub_self, List.set_cons_zero]
theorem end_mid {P R : List Mv} {x : Mv} : endL (P ++ x :: R) P.length = P ++ R := by
  unfold endL
  rw [List.take_left]
  congr 1
  rw [show P.length + 1 = P.length + 1 from rfl, List.drop_append]
  simp

theorem meet_eq (h : Good T S A k) (f : Int) : meetM (rows T S A) f = rmeet S f := by
  rcases rmeet_cases h f with ⟨h1, h2⟩ | ⟨g, rfl, hg, h1, h2⟩
  · unfold meetM; rw [if_pos h2, h1]
  · obtain ⟨e1, e2⟩ := of_yes (T := T) (A := A) hg (show 0 < gi S g by omega)
    unfold meetM
    rw [if_neg (by rw [e1]; omega), e1, Int.toNat_natCast, h1]
    conv => lhs; rw [e2]
    rw [getD_mid]; rfl

theorem copyE_eq (h : Good T S A k) (f : Int) : copyE (rows T S A) f = rcopyE S f := by
  unfold copyE rcopyE
  rw [meet_eq h]
  rcases rmeet_cases h f with ⟨h1, h2⟩ | ⟨g, rfl, hg, h1, h2⟩
  · rw [if_pos h2, if_pos h1]
  · obtain ⟨e1, e2⟩ := of_yes (T := T) (A := A) hg (show 0 < gi S g by omega)
    rw [if_neg (show ¬ ofI (rows T S A) g = -1 by rw [e1]; omega), if_neg (show ¬ rmeet S g = 0 by rw [h1]; omega)]

/-- The rows, changed at f alone. -/
theorem rows_at {T' S' A' : List Int} {f : Nat} (hf : f < 1024) (h : ∀ j, j ≠ f → gi T j = gi T' j ∧ gi S j = gi S' j ∧ gi A j = gi A' j) :
    rows T' S' A' = rowsN T S A 0 f ++ ((if 0 < gi S' f then [mk T' S' A' f] else []) ++ rowsN T S A (f + 1) (1023 - f)) := by
  rw [rows_split T' S' A' hf, rowsN_congr f 0 (fun j h1 h2 => h j (by omega)), rowsN_congr (T := T) (T' := T') (1023 - f) (f + 1) (fun j h1 h2 => h j (by omega))]

theorem copyL_eq (h : Good T S A k) (f : Int) : copyL (rows T S A) f = rows T (rcopyS S f) A := by
  unfold copyL rcopyS
  rw [copyE_eq h]
  by_cases hc : rcopyE S f = 0
  · rw [if_pos hc, if_pos hc]
    rcases rmeet_cases h f with ⟨h1, h2⟩ | ⟨g, rfl, hg, h1, h2⟩
    · unfold rcopyE at hc; rw [if_pos h1] at hc; omega
    · obtain ⟨e1, e2⟩ := of_yes (T := T) (A := A) hg (show 0 < gi S g by omega)
      have hls := h.ls
      rw [e1, Int.toNat_natCast, Int.toNat_natCast, rows_at (T := T) (S := S) (A := A) hg (fun j hj => ⟨rfl, (gi_set_ne (Ne.symm hj) _).symm, rfl⟩), gi_set_eq (by omega), if_pos (by omega), List.singleton_append]
      conv => lhs; rw [e2]
      rw [set_mid, getD_mid]
      simp only [mk, gi_set_eq (show g < S.length by omega)]
  · rw [if_neg hc, if_neg hc]

theorem fin_eq (h : Good T S A k) (f : Int) : finR (rows T S A) f = rendR T S f false ∧ finL (rows T S A) f = rows (rendT T S f false) (rendS T S f false) A := by
  have hlt := h.lt
  have hls := h.ls
  unfold finR finL rendT rendS rendR
  rw [meet_eq h]
  rcases rmeet_cases h f with ⟨h1, h2⟩ | ⟨g, rfl, hg, h1, h2⟩
  · rw [if_pos h2, if_pos h2, if_pos h1]; exact ⟨rfl, rfl⟩
  · obtain ⟨e1, e2⟩ := of_yes (T := T) (A := A) hg (show 0 < gi S g by omega)
    rw [if_neg (show ¬ ofI (rows T S A) g = -1 by rw [e1]; omega), if_neg (show ¬ ofI (rows T S A) g = -1 by rw [e1]; omega), if_neg (show ¬ rmeet S g = 0 by rw [h1]; omega), e1, Int.toNat_natCast, Int.toNat_natCast, h1]
    rcases h2 with h2 | h2
    · rw [if_pos (show gi S g ≠ 2 by omega), if_pos (show gi S g ≠ 2 by omega), if_pos (show gi S g = 1 ∧ false = false from ⟨h2, rfl⟩)]; exact ⟨rfl, rfl⟩
    · rw [if_neg (show ¬ gi S g ≠ 2 by omega), if_neg (show ¬ gi S g ≠ 2 by omega), if_neg (show ¬ (gi S g = 1 ∧ false = false) by omega)]
      refine ⟨?_, ?_⟩
      · conv => lhs; rw [e2]
        rw [getD_mid]; rfl
      · rw [if_pos rfl, if_pos rfl, rows_at (T := T) (S := S) (A := A) hg (fun j hj => ⟨(gi_set_ne (Ne.symm hj) _).symm, (gi_set_ne (Ne.symm hj) _).symm, rfl⟩), gi_set_eq (by omega), if_neg (show ¬ (0 : Int) < 0 by omega), List.nil_append]
        conv => lhs; rw [e2]
        rw [end_mid]
theorem abort_eq (h : Good T S A k) (f : Int) : abortR (rows T S A) f = rendR T S f true ∧ abortL (rows T S A) f = rows (rendT T S f true) (rendS T S f true) A := by
  have hlt := h.lt
  have hls := h.ls
  unfold abortR abortL rendT rendS rendR
  rcases rmeet_cases h f with ⟨h1, h2⟩ | ⟨g, rfl, hg, h1, h2⟩
  · rw [if_pos h2, if_pos h2, if_pos h1]; exact ⟨rfl, rfl⟩
  · obtain ⟨e1, e2⟩ := of_yes (T := T) (A := A) hg (show 0 < gi S g by omega)
    rw [if_neg (show ¬ ofI (rows T S A) g = -1 by rw [e1]; omega), if_neg (show ¬ ofI (rows T S A) g = -1 by rw [e1]; omega), if_neg (show ¬ rmeet S g = 0 by rw [h1]; omega), e1, Int.toNat_natCast, Int.toNat_natCast, h1]
    rw [if_neg (by simp)]
    refine ⟨?_, ?_⟩
    · conv => lhs; rw [e2]
      rw [getD_mid]; rfl
    · rw [if_pos rfl, if_pos rfl, rows_at (T := T) (S := S) (A := A) hg (fun j hj => ⟨(gi_set_ne (Ne.symm hj) _).symm, (gi_set_ne (Ne.symm hj) _).symm, rfl⟩), gi_set_eq (by omega), if_neg (show ¬ (0 : Int) < 0 by omega), List.nil_append]
      conv => lhs; rw [e2]
      rw [end_mid]

theorem frame_eq (f : Int) : frameB f = frameR f := by unfold frameB frameR; congr 1; simp; omega
theorem beginE_eq (h : Good T S A k) (most f t : Int) : beginE (rows T S A) most f t = rbeginE T S A most f t := by
  unfold beginE rbeginE
  rw [frame_eq, frame_eq, find_eq h.ls, find_eq h.ls, h.ls, show (rows T S A).length = rlenN S 1024 from rowsN_length ..]

theorem begin_free {T S A : List Int} {f : Nat} (hs : S.length = 1024) (hf : f < 1024) (h : (findM (rows T S A) f).isSome = false) : gi S f ≤ 0 := by
  rcases Int.lt_or_le 0 (gi S f) with h1 | h1
  · exact absurd rfl (findM_none h _ (mem_rows.mpr ⟨f, hf, h1, rfl⟩)).1
  · exact h1

theorem begin_facts {most f t : Int} (hs : S.length = 1024) (hb : rbeginE T S A most f t = 0) : (0 ≤ f ∧ f ≤ 1023) ∧ (0 ≤ t ∧ t ≤ 1023) ∧ f ≠ t ∧ (findM (rows T S A) f).isSome = false ∧ (findM (rows T S A) t).isSome = false ∧ rlenN S 1024 < most := by
  unfold rbeginE at hb
  by_cases h1 : frameR f = false ∨ frameR t = false
  · rw [if_pos h1] at hb; omega
  rw [if_neg h1] at hb
  by_cases h2 : f = t
  · rw [if_pos h2] at hb; omega
  rw [if_neg h2] at hb
  by_cases h3 : (rfind T S A f).isSome = true ∨ (rfind T S A t).isSome = true
  · rw [if_pos h3] at hb; omega
  rw [if_neg h3, hs] at hb
  by_cases h4 : most ≤ rlenN S 1024
  · rw [if_pos h4] at hb; omega
  have hf : frameR f = true := by simpa using fun h => h1 (.inl h)
  have ht : frameR t = true := by simpa using fun h => h1 (.inr h)
  rw [find_eq hs, find_eq hs]
  exact ⟨frameR_iff.1 hf, frameR_iff.1 ht, h2, by simpa using fun h => h3 (.inl h), by simpa using fun h => h3 (.inr h), by omega⟩

theorem begin_eq (h : Good T S A k) (most f t : Int) : beginS (rows T S A) most f t = rows (rbeginT T S A most f t) (rbeginS T S A most f t) (rbeginA T S A most f t) := by
  have hlt := h.lt
  have hls := h.ls
  have hla := h.la
  unfold beginS rbeginT rbeginS rbeginA
  rw [beginE_eq h]
  by_cases hb : rbeginE T S A most f t = 0
  · rw [if_pos hb, if_pos hb, if_pos hb, if_pos hb]
    obtain ⟨⟨f0, f1⟩, _, _, hn, _, _⟩ := begin_facts h.ls hb
    obtain ⟨f, rfl⟩ := Int.eq_ofNat_of_zero_le f0
    have hf : f < 1024 := by omega
    have h0 := begin_free h.ls hf hn
    have e := rows_split T S A hf
    rw [if_neg (by omega), List.nil_append] at e
    have hi : insK (rows T S A) f = (rowsN T S A 0 f).length := by
      refine insK_eq (by rw [e]; simp) (fun j hj hl => ?_) (fun hl => ?_)
      · simp only [e]
        rw [List.getElem_append_left hj]
        exact lo_ne T S A f _ (List.getElem_mem _)
      · simp only [e]
        rw [List.getElem_append_right (Nat.le_refl _)]
        have := hi_ne T S A f _ _ (List.getElem_mem (l := rowsN T S A (f + 1) (1023 - f)) (n := (rowsN T S A 0 f).length - (rowsN T S A 0 f).length) (by rw [e] at hl; simp at hl; simp; omega))
        omega
    unfold beginL
    rw [hi, Int.toNat_natCast, rows_at (T := T) (S := S) (A := A) hf (fun j hj => ⟨(gi_set_ne (Ne.symm hj) _).symm, (gi_set_ne (Ne.symm hj) _).symm, (gi_set_ne (Ne.symm hj) _).symm⟩), gi_set_eq (by omega), if_pos (by omega)]
    conv => lhs; rw [e]
    rw [List.take_left, List.drop_left, List.append_assoc]
    simp only [mk, gi_set_eq (show f < S.length by omega), gi_set_eq (show f < T.length by omega), gi_set_eq (show f < A.length by omega), Int.add_sub_cancel]
  · rw [if_neg hb, if_neg hb, if_neg hb, if_neg hb]

theorem gi_ones {A : List Int} {i : Nat} (h : i < A.length) : gi (ones A) i = gi A i + 1 := by
  rw [gi_eq (by simpa [ones] using h), gi_eq h]; simp [ones]
theorem tick_rows (hA : A.length = 1024) : ∀ n i, i + n ≤ 1024 → tickL (rowsN T S A i n) = rowsN T S (ones A) i n := by
  intro n
  induction n with
  | zero => intro i _; rfl
  | succ n ih =>
    intro i hi
    simp only [rowsN]
    have := ih (i + 1) (by omega)
    unfold tickL at this ⊢
    split
    · rw [List.map_cons, this]
      simp only [mk, gi_ones (show i < A.length by omega)]
    · exact this
theorem tick_eq (h : Good T S A k) : tickL (rows T S A) = rows T S (ones A) := tick_rows h.la 1024 0 (by omega)

theorem Good.nil (k : Int) (hk : 0 ≤ k) : Good (List.replicate 1024 0) (List.replicate 1024 0) (List.replicate 1024 0) k :=
  ⟨row_len _, row_len _, row_len _, fun i _ => .inl (gi_rep0 _ _), fun i _ h => by rw [gi_rep0] at h; omega, fun i _ => by rw [gi_rep0]; omega, fun i j _ _ h => by rw [gi_rep0] at h; omega⟩
theorem Good.age {k m : Int} (h : Good T S A k) (hm : k ≤ m) : Good T S A m := ⟨h.lt, h.ls, h.la, h.st, h.tt, fun i hi => by have := h.ag i hi; omega, h.ds⟩
theorem Good.copy (h : Good T S A k) (f : Int) : Good T (rcopyS S f) A k := by
  have hls := h.ls
  unfold rcopyS
  by_cases hc : rcopyE S f = 0
  · rw [if_pos hc]
    rcases rmeet_cases h f with ⟨h1, h2⟩ | ⟨g, rfl, hg, h1, h2⟩
    · unfold rcopyE at hc; rw [if_pos h1] at hc; omega
    · have key : ∀ i, i < 1024 → 0 < gi (S.set g 2) i → 0 < gi S i := by
        intro i hi h3
        by_cases e : g = i
        · subst e; omega
        · rwa [gi_set_ne e] at h3
      rw [Int.toNat_natCast]
      refine ⟨h.lt, by simpa using h.ls, h.la, fun i hi => ?_, fun i hi h3 => h.tt i hi (key i hi h3), h.ag, fun i j hi hj h3 h4 => h.ds i j hi hj (key i hi h3) (key j hj h4)⟩
      by_cases e : g = i
      · subst e; rw [gi_set_eq (by omega)]; omega
      · rw [gi_set_ne e]; exact h.st i hi
  · rw [if_neg hc]; exact h
theorem Good.fin (h : Good T S A k) (f : Int) (g : Bool) : Good (rendT T S f g) (rendS T S f g) A k := by
  have hls := h.ls
  have hlt := h.lt
  unfold rendT rendS
  by_cases hc : (rendR T S f g).2 = 0
  · rw [if_pos hc, if_pos hc]
    rcases rmeet_cases h f with ⟨h1, h2⟩ | ⟨q, rfl, hq, h1, h2⟩
    · unfold rendR at hc; rw [if_pos h1] at hc; simp at hc
    · have key : ∀ i, i < 1024 → 0 < gi (S.set q 0) i → 0 < gi S i ∧ q ≠ i := by
        intro i hi h3
        by_cases e : q = i
        · subst e; rw [gi_set_eq (by omega)] at h3; omega
        · rw [gi_set_ne e] at h3; exact ⟨h3, e⟩
      rw [Int.toNat_natCast]
      refine ⟨by simpa using h.lt, by simpa using h.ls, h.la, fun i hi => ?_, fun i hi h3 => ?_, h.ag, fun i j hi hj h3 h4 => ?_⟩
      · by_cases e : q = i
        · subst e; rw [gi_set_eq (by omega)]; omega
        · rw [gi_set_ne e]; exact h.st i hi
      · obtain ⟨h3, e⟩ := key i hi h3
        rw [gi_set_ne e]; exact h.tt i hi h3
      · obtain ⟨h3, e⟩ := key i hi h3
        obtain ⟨h4, e'⟩ := key j hj h4
        rw [gi_set_ne e, gi_set_ne e']; exact h.ds i j hi hj h3 h4
  · rw [if_neg hc, if_neg hc]; exact h
theorem Good.tick (h : Good T S A k) : Good T S (ones A) (k + 1) :=
  ⟨h.lt, h.ls, by simpa [ones] using h.la, h.st, h.tt, fun i hi => by have := h.ag i hi; rw [gi_ones (by rw [h.la]; exact hi)]; omega, h.ds⟩
theorem Good.begin (h : Good T S A k) (hk : 0 ≤ k) (most f t : Int) : Good (rbeginT T S A most f t) (rbeginS T S A most f t) (rbeginA T S A most f t) k := by
  have hlt := h.lt
  have hls := h.ls
  have hla := h.la
  unfold rbeginT rbeginS rbeginA
  by_cases hb : rbeginE T S A most f t = 0
  · rw [if_pos hb, if_pos hb, if_pos hb]
    obtain ⟨⟨f0, f1⟩, ⟨t0, t1⟩, hft, hn, hn2, _⟩ := begin_facts h.ls hb
    obtain ⟨f, rfl⟩ := Int.eq_ofNat_of_zero_le f0
    have hf : f < 1024 := by omega
    have n1 : ∀ i, i < 1024 → 0 < gi S i → (i : Int) ≠ f ∧ gi T i - 1 ≠ f := fun i hi hs => findM_none hn _ (mem_rows.mpr ⟨i, hi, hs, rfl⟩)
    have n2 : ∀ i, i < 1024 → 0 < gi S i → (i : Int) ≠ t ∧ gi T i - 1 ≠ t := fun i hi hs => findM_none hn2 _ (mem_rows.mpr ⟨i, hi, hs, rfl⟩)
    rw [Int.toNat_natCast]
    refine ⟨by simpa using h.lt, by simpa using h.ls, by simpa using h.la, fun i hi => ?_, fun i hi h3 => ?_, fun i hi => ?_, fun i j hi hj h3 h4 => ?_⟩
    · by_cases e : f = i
      · subst e; rw [gi_set_eq (by omega)]; omega
      · rw [gi_set_ne e]; exact h.st i hi
    · by_cases e : f = i
      · subst e; rw [gi_set_eq (by omega)]; omega
      · rw [gi_set_ne e] at h3 ⊢; exact h.tt i hi h3
    · by_cases e : f = i
      · subst e; rw [gi_set_eq (by omega)]; omega
      · rw [gi_set_ne e]; exact h.ag i hi
    · by_cases e : f = i
      · subst e
        by_cases e' : f = j
        · subst e'
          rw [gi_set_eq (by omega)]; exact ⟨by omega, fun h => absurd rfl h⟩
        · rw [gi_set_ne e'] at h4 ⊢
          rw [gi_set_eq (by omega)]
          have := n2 j hj h4
          exact ⟨by omega, fun _ => by omega⟩
      · rw [gi_set_ne e] at h3 ⊢
        by_cases e' : f = j
        · subst e'
          rw [gi_set_eq (by omega)]
          have := n2 i hi h3
          have := n1 i hi h3
          exact ⟨by omega, fun _ => by omega⟩
        · rw [gi_set_ne e'] at h4 ⊢
          exact h.ds i j hi hj h3 h4
  · rw [if_neg hb, if_neg hb, if_neg hb]; exact h
end

end Go.Proofs.Ytnlalihapmlceaa
