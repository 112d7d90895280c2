/- Memory: the plain laws of what Take takes, and of what is spare. -/
import Derived.Test.YtjffdimlbppgcaaGreatMV
set_option linter.unusedVariables false
set_option linter.unusedSimpArgs false
namespace Go.Proofs.YtjffdimlbppgcaaGreat
open Go.RowKit Go.Own

section
variable {F : Nat → Bool} {M : Nat → Int} {D : List Bk} {n : Nat}
theorem bst_some {x : Int} {g : Bool} : ∀ (L : List Bk) (z : Bk), ∃ u, L.foldl (bst1 M x g) (some z) = some u
  | [], z => ⟨z, rfl⟩
  | y :: L, z => by
    rw [List.foldl_cons]
    have : ∃ u, bst1 M x g (some z) y = some u := by
      unfold bst1
      split
      · simp only
        split
        · exact ⟨_, rfl⟩
        · exact ⟨_, rfl⟩
      · exact ⟨_, rfl⟩
    obtain ⟨u, hu⟩ := this
    rw [hu]; exact bst_some L u
theorem bst_none {x : Int} {g : Bool} : ∀ {L : List Bk}, bst M x g L = none → ∀ y, y ∈ L → M (y.f.toNat / 8) ≠ x
  | [], _, z, hz => by cases hz
  | y :: L, h, z, hz => by
    unfold bst at h
    rw [List.foldl_cons] at h
    by_cases hm : M (y.f.toNat / 8) = x
    · have : bst1 M x g none y = some y := by unfold bst1; rw [if_pos hm]
      rw [this] at h
      obtain ⟨u, hu⟩ := bst_some (M := M) (x := x) (g := g) L y
      rw [hu] at h; cases h
    · have : bst1 M x g none y = none := by unfold bst1; rw [if_neg hm]
      rw [this] at h
      rcases List.mem_cons.mp hz with rfl | hz
      · exact hm
      · exact bst_none h z hz
theorem tkP_none {o x : Int} (h : tkP M D o x = none) (hx : x = 0 ∨ x = 1 ∨ x = 2) : ∀ y, y ∈ pcO M D o → M (y.f.toNat / 8) ≠ 0 ∧ M (y.f.toNat / 8) ≠ 1 ∧ M (y.f.toNat / 8) ≠ 2 := by
  intro y hy
  unfold tkP at h
  cases h1 : bst M x false (pcO M D o) with
  | some z => simp only [h1] at h; cases h
  | none =>
    cases h2 : bst M (oth2 x).1 true (pcO M D o) with
    | some z => simp only [h1, h2] at h; cases h
    | none =>
      cases h3 : bst M (oth2 x).2 true (pcO M D o) with
      | some z => simp only [h1, h2, h3] at h; cases h
      | none =>
        have a1 := bst_none h1 y hy
        have a2 := bst_none h2 y hy
        have a3 := bst_none h3 y hy
        unfold oth2 at a2 a3
        rcases hx with rfl | rfl | rfl <;> simp at a2 a3 <;> exact ⟨by assumption, by assumption, by assumption⟩
theorem tkP_some {o x : Int} {y : Bk} {own : Bool} (h : tkP M D o x = some (y, own)) (hx : x = 0 ∨ x = 1 ∨ x = 2) :
    y ∈ pcO M D o ∧ M (y.f.toNat / 8) ≠ 3 ∧ ((own = true ∧ M (y.f.toNat / 8) = x) ∨ (own = false ∧ M (y.f.toNat / 8) ≠ x ∧ ∀ z, z ∈ pcO M D o → M (z.f.toNat / 8) ≠ x)) := by
  unfold tkP at h
  cases h1 : bst M x false (pcO M D o) with
  | some z =>
    simp only [h1] at h; injection h with h; injection h with h h'; subst h; subst h'
    obtain ⟨a1, a2⟩ := bst_in h1
    exact ⟨a1, by omega, .inl ⟨rfl, a2⟩⟩
  | none =>
    cases h2 : bst M (oth2 x).1 true (pcO M D o) with
    | some z =>
      simp only [h1, h2] at h; injection h with h; injection h with h h'; subst h; subst h'
      obtain ⟨a1, a2⟩ := bst_in h2
      refine ⟨a1, ?_, .inr ⟨rfl, bst_none h1 _ a1, bst_none h1⟩⟩
      rw [a2]; unfold oth2
      rcases hx with rfl | rfl | rfl <;> simp
    | none =>
      cases h3 : bst M (oth2 x).2 true (pcO M D o) with
      | some z =>
        simp only [h1, h2, h3] at h; injection h with h; injection h with h h'; subst h; subst h'
        obtain ⟨a1, a2⟩ := bst_in h3
        refine ⟨a1, ?_, .inr ⟨rfl, bst_none h1 _ a1, bst_none h1⟩⟩
        rw [a2]; unfold oth2
        rcases hx with rfl | rfl | rfl <;> simp
      | none => simp only [h1, h2, h3] at h; cases h
theorem small_sec {a k i : Nat} (hk : k ≤ 3) (ha : a % 2 ^ k = 0) (h1 : a ≤ i) (h2 : i < a + 2 ^ k) : i / 8 = a / 8 := by
  have : k = 0 ∨ k = 1 ∨ k = 2 ∨ k = 3 := by omega
  rcases this with rfl | rfl | rfl | rfl <;> simp at ha h2 <;> omega
theorem pcs_sec (hb : IsBl F D) {y : Bk} (h : y ∈ pcs M D) {i : Nat} (h1 : y.f.toNat ≤ i) (h2 : i < y.f.toNat + 2 ^ y.o.toNat) :
    (y.o ≤ 3 ∧ i / 8 = y.f.toNat / 8) ∨ (3 < y.o ∧ M (i / 8) ≠ 3 ∧ M (y.f.toNat / 8) ≠ 3) := by
  unfold pcs at h
  rw [List.mem_flatMap] at h
  obtain ⟨x, hx, hy⟩ := h
  obtain ⟨k, a, hm, rfl⟩ := (hb.2 x).mp hx
  unfold pcB at hy
  simp only [Int.toNat_natCast] at hy
  split at hy
  · next hc =>
    simp only [List.mem_singleton] at hy
    subst hy
    simp only [Int.toNat_natCast] at h1 h2 ⊢
    by_cases hk : k ≤ 3
    · exact .inl ⟨by omega, small_sec hk hm.2.1 h1 h2⟩
    · have hal : alB M a k = false := by
        rcases hc with h | h
        · omega
        · exact h
      have h8 := p8 (k := k) (by omega)
      have ha : a % 8 = 0 := by have := mod_of_le (j := 3) (show 3 ≤ k by omega) hm.2.1; simpa using this
      have hal' : ∀ j, j < 2 ^ (k - 3) → M (a / 8 + j) ≠ 3 := by
        intro j hj e
        have : alB M a k = true := by
          unfold alB
          rw [List.any_eq_true]
          exact ⟨j, List.mem_range.mpr hj, by simpa using e⟩
        rw [hal] at this; cases this
      refine .inr ⟨by omega, ?_, ?_⟩
      · have := hal' (i / 8 - a / 8) (by omega)
        rwa [show a / 8 + (i / 8 - a / 8) = i / 8 by omega] at this
      · have := hal' 0 (p2 _)
        rwa [Nat.add_zero] at this
  · next hk =>
    rw [List.mem_map] at hy
    obtain ⟨j, hj, rfl⟩ := hy
    have hk3 : 3 ≤ k := by
      rcases Nat.lt_or_ge k 3 with h | h
      · exact absurd (.inl (by omega)) hk
      · exact h
    have ha : a % 8 = 0 := by have := mod_of_le (j := 3) hk3 hm.2.1; simpa using this
    simp only [show ((a : Int) + 8 * (j : Int)).toNat = a + 8 * j by omega] at h1 h2 ⊢
    simp at h2
    exact .inl ⟨by simp, by omega⟩
theorem pcs_cover (hb : IsBl F D) {i : Nat} (hi : F i = true) : ∃ y, y ∈ pcs M D ∧ 0 ≤ y.o ∧ y.f.toNat ≤ i ∧ i < y.f.toNat + 2 ^ y.o.toNat := by
  obtain ⟨k, hk⟩ := mx_of hi
  have hx := (hb.2 _).mpr ⟨k, dn k i, hk, rfl⟩
  have q1 := dn_le k i
  have q2 := dn_lt k i
  by_cases hc : ((k : Int) ≤ 3 ∨ alB M (dn k i) k = false)
  · refine ⟨⟨(dn k i : Nat), (k : Nat)⟩, List.mem_flatMap.mpr ⟨_, hx, ?_⟩, by simp, ?_⟩
    · unfold pcB
      simp only [Int.toNat_natCast]
      rw [if_pos hc]; exact List.mem_singleton.mpr rfl
    · simp only [Int.toNat_natCast]; omega
  · have hk3 : 3 ≤ k := by
      rcases Nat.lt_or_ge k 3 with h | h
      · exact absurd (.inl (by omega)) hc
      · exact h
    have h8 := p8 hk3
    refine ⟨⟨(dn k i : Int) + 8 * ((i - dn k i) / 8 : Nat), 3⟩, List.mem_flatMap.mpr ⟨_, hx, ?_⟩, by simp, ?_, ?_⟩
    · unfold pcB
      simp only [Int.toNat_natCast]
      rw [if_neg hc]
      exact List.mem_map.mpr ⟨(i - dn k i) / 8, List.mem_range.mpr (by omega), rfl⟩
    · simp only; omega
    · simp only; simp; omega
/-- No frame is taken: all free ones are isolated. -/
theorem none_iso {x : Int} (hb : IsBl F D) (hF : ∀ i, F i = true → i < n) (hM : ∀ i, i < sec n → 0 ≤ M i ∧ M i ≤ 3) (hx : x = 0 ∨ x = 1 ∨ x = 2) (h : tkP M D 0 x = none) {i : Nat} (hi : F i = true) : M (i / 8) = 3 := by
  obtain ⟨y, hy, h0, h1, h2⟩ := pcs_cover (M := M) hb hi
  have hyo : y ∈ pcO M D 0 := List.mem_filter.mpr ⟨hy, by simpa using h0⟩
  have hk := tkP_none h hx y hyo
  have hin := hF i hi
  have hm := hM (y.f.toNat / 8) (sec_lt (by omega))
  rcases pcs_sec (M := M) hb hy h1 h2 with ⟨_, e⟩ | ⟨_, _, e⟩
  · rw [e]; omega
  · omega
/-- What is taken is in no isolated section. -/
theorem some_iso {o : Nat} {x : Int} {y : Bk} {own : Bool} (hb : IsBl F D) (hF : ∀ i, F i = true → i < n) (hx : x = 0 ∨ x = 1 ∨ x = 2) (h : tkP M D o x = some (y, own)) {i : Nat} (h1 : y.f.toNat ≤ i) (h2 : i < y.f.toNat + 2 ^ o) : M (i / 8) ≠ 3 ∧ F i = true := by
  obtain ⟨hy, h3, _⟩ := tkP_some h hx
  have hyp := (List.mem_filter.mp hy).1
  have hyo : (o : Int) ≤ y.o := by simpa using (List.mem_filter.mp hy).2
  have hle : 2 ^ o ≤ 2 ^ y.o.toNat := Nat.pow_le_pow_right (by decide) (by omega)
  obtain ⟨a, k, rfl, hk8, hak, hbk, hend⟩ := pcs_fine hb hF hyp
  refine ⟨?_, ?_⟩
  · rcases pcs_sec (M := M) hb hyp h1 (by omega) with ⟨_, e⟩ | ⟨_, e, _⟩
    · rw [e]; exact h3
    · exact e
  · simp only [Int.toNat_natCast] at h1 h2 hle
    exact hbk i h1 (by omega)
theorem cntK_all (h : ∀ i, i < n → F i = true → M (i / 8) = 3) : cntK F M 3 n = cnt F n := by
  unfold cntK cnt
  refine List.countP_congr fun i hi => ?_
  have := h i (List.mem_range.mp hi)
  cases hF : F i with
  | false => simp
  | true => simp [this hF]
end

theorem cnt_less {F F' : Nat → Bool} {f : Nat} (h : ∀ i, i ≠ f → F' i = F i) (hf : F f = true) (hf' : F' f = false) : ∀ n, (f < n → cnt F' n + 1 = cnt F n) ∧ (n ≤ f → cnt F' n = cnt F n)
  | 0 => ⟨fun h => by omega, fun _ => rfl⟩
  | n + 1 => by
    obtain ⟨h1, h2⟩ := cnt_less h hf hf' n
    rw [cnt_succ, cnt_succ]
    by_cases e : n = f
    · subst e
      refine ⟨fun _ => ?_, fun h => by omega⟩
      rw [h2 (Nat.le_refl _), hf, hf']; simp
    · rw [h n e]
      refine ⟨fun h => ?_, fun h => ?_⟩
      · have := h1 (by omega); omega
      · have := h2 (by omega); omega
theorem cntK_same {F F' : Nat → Bool} {M M' : Nat → Int} {n : Nat} (h : ∀ i, i < n → ((F' i = true ∧ M' (i / 8) = 3) ↔ (F i = true ∧ M (i / 8) = 3))) : cntK F' M' 3 n = cntK F M 3 n := by
  unfold cntK
  refine List.countP_congr fun i hi => ?_
  have := h i (List.mem_range.mp hi)
  simp only [Bool.and_eq_true, decide_eq_true_eq]
  exact this
/-- What One answers, and what is spare then. -/
theorem spare_law {A : Ad} {P P1 : PS} {x : Int} {E : Value} (h : BlkR A P 0 x 2 E P1) (k : Lk A.n P) (hx : x = 0 ∨ x = 1 ∨ x = 2) :
    (E = .tuple #[.int .i64 0, .int .i64 8] ∧ spr A P = 0) ∨
    ∃ a : Nat, E = .tuple #[.int .i64 (a : Int), .int .i64 0] ∧ a < A.n ∧ spr A P1 + 1 = spr A P ∧ gi P1.L a = 2 ∧ ∀ i, 8 * a ≤ i → i < 8 * a + 8 → P1.W i = 0 := by
  rcases h with ⟨hb, _⟩ | ⟨_, hs, rfl, _⟩ | ⟨hb, hs, D, hD, ⟨ht, rfl, _⟩ | ⟨y, own, ht, rfl, rfl⟩⟩
  · unfold badB at hb; omega
  · exact .inl ⟨rfl, by simpa using hs⟩
  · refine .inl ⟨rfl, ?_⟩
    have : cntK P.F P.M 3 A.n = cnt P.F A.n := cntK_all fun i hi hF => none_iso hD k.fin k.kd hx ht hF
    unfold spr; omega
  · obtain ⟨⟨a, kk, rfl, _, hak, hbk, hend⟩, hok⟩ := tkP_fine hD k.fin ht
    obtain ⟨hyO, hy3, _⟩ := tkP_some ht hx
    have hp := p2 kk
    have hF : P.F a = true := hbk a (Nat.le_refl _) (by omega)
    have ha : a < A.n := by omega
    simp only [Int.toNat_natCast] at hy3
    refine .inr ⟨a, rfl, ha, ?_, ?_, ?_⟩
    · have c1 := (cnt_less (F := P.F) (F' := subB P.F 0 a) (f := a) (fun i hi => by
        cases hc : P.F i with
        | true => exact (subB_iff _ _ _ _).mpr ⟨hc, by simp; omega⟩
        | false =>
          cases hc2 : subB P.F 0 a i with
          | false => rfl
          | true => have := ((subB_iff _ _ _ _).mp hc2).1; rw [hc] at this; cases this) hF (by
        cases hc2 : subB P.F 0 a a with
        | false => rfl
        | true => exact absurd (by simp) ((subB_iff _ _ _ _).mp hc2).2) A.n).1 ha
      have hM : ∀ s, tkM P.M 0 x ⟨(a : Int), (kk : Int)⟩ own s ≠ P.M s → s = a / 8 ∧ tkM P.M 0 x ⟨(a : Int), (kk : Int)⟩ own s = x := by
        intro s hs
        unfold tkM at hs ⊢
        split at hs
        · next h =>
          rw [if_pos h]
          simp only [Int.toNat_natCast] at h
          have h8 : a % 8 = 0 := by have := mod_of_le (j := 3) (show 3 ≤ kk by omega) hak; simpa using this
          refine ⟨?_, rfl⟩
          have := h.2.2.2
          simp at this
          omega
        · exact absurd rfl hs
      have c2 : cntK (subB P.F 0 a) (tkM P.M 0 x ⟨(a : Int), (kk : Int)⟩ own) 3 A.n = cntK P.F P.M 3 A.n := by
        refine cntK_same fun i hi => ?_
        have hm3 : tkM P.M 0 x ⟨(a : Int), (kk : Int)⟩ own (i / 8) = 3 ↔ P.M (i / 8) = 3 := by
          by_cases e : tkM P.M 0 x ⟨(a : Int), (kk : Int)⟩ own (i / 8) = P.M (i / 8)
          · rw [e]
          · obtain ⟨e1, e2⟩ := hM _ e
            rw [e2, e1]
            constructor
            · intro h; omega
            · intro h; exact absurd h hy3
        rw [hm3, subB_iff]
        constructor
        · rintro ⟨⟨h1, _⟩, h2⟩; exact ⟨h1, h2⟩
        · rintro ⟨h1, h2⟩
          refine ⟨⟨h1, fun h => ?_⟩, h2⟩
          simp at h
          obtain rfl : i = a := by omega
          exact hy3 h2
      have e1 : ((0 : Int)).toNat = 0 := rfl
      simp only [e1] at hs
      unfold spr gvn
      simp only [e1, Int.toNat_natCast]
      rw [c2]
      unfold spr at hs
      simp at hs
      omega
    · simp only [gvn, Int.toNat_natCast]
      rw [Fr.gi_fillN _ _ _ _ _ (by rw [k.ln]; simp; omega), if_pos (by simp)]
      rfl
    · intro i h1 h2
      simp only [gvn, Int.toNat_natCast, zerW]
      rw [if_pos (by simp; omega)]

end Go.Proofs.YtjffdimlbppgcaaGreat
