/- Buddy: what was taken, the plain law. -/
import Derived.Test.YtcbkfilhgeeebaaAK
set_option linter.unusedVariables false
set_option linter.unusedSimpArgs false
namespace Go.Proofs.Ytcbkfilhgeeebaa
open Go.RowKit Go.Own

/-- Frame i is one of block t's. -/
def inT (t : Bk) (i : Nat) : Prop := t.f ≤ (i : Int) ∧ (i : Int) < t.f + ((2 ^ t.o.toNat : Nat) : Int)
def okT (n : Nat) (t : Bk) : Prop := ∃ a k : Nat, t = ⟨a, k⟩ ∧ k ≤ 8 ∧ a % 2 ^ k = 0 ∧ a + 2 ^ k ≤ n
/-- T are the blocks that are not free: apart, and all that is not free lies in one. -/
structure TkP (n : Nat) (F : Nat → Bool) (T : List Bk) : Prop where
  ok : ∀ t, t ∈ T → okT n t
  no : ∀ t, t ∈ T → ∀ i, inT t i → F i = false
  ap : T.Pairwise (fun x y => ∀ i, ¬ (inT x i ∧ inT y i))
  co : ∀ i, i < n → F i = false → ∃ t, t ∈ T ∧ inT t i
theorem inT_iff (a k i : Nat) : inT ⟨a, k⟩ i ↔ a ≤ i ∧ i < a + 2 ^ k := by
  unfold inT
  simp only [Int.toNat_natCast]
  omega
theorem TkP.start (n : Nat) : TkP n (upTo n) [] :=
  ⟨fun t h => by simp at h, fun t h => by simp at h, .nil, fun i h1 h2 => by simp [upTo] at h2; omega⟩
theorem TkP.perm {n : Nat} {F : Nat → Bool} {T R : List Bk} (h : TkP n F T) (p : T.Perm R) : TkP n F R :=
  ⟨fun t m => h.ok t (p.mem_iff.mpr m), fun t m => h.no t (p.mem_iff.mpr m), (List.Perm.pairwise_iff (fun {x y} hxy i hi => hxy i ⟨hi.2, hi.1⟩) p).mp h.ap,
    fun i h1 h2 => by obtain ⟨t, m, ht⟩ := h.co i h1 h2; exact ⟨t, p.mem_iff.mp m, ht⟩⟩
theorem TkP.sub {n a k : Nat} {F : Nat → Bool} {T : List Bk} (h : TkP n F T) (hk : k ≤ 8) (ha : a % 2 ^ k = 0) (hn : a + 2 ^ k ≤ n) (hb : blk F k a) : TkP n (subB F k a) (⟨a, k⟩ :: T) := by
  refine ⟨?_, ?_, ?_, ?_⟩
  · intro t m
    rcases List.mem_cons.mp m with rfl | m
    · exact ⟨a, k, rfl, hk, ha, hn⟩
    · exact h.ok t m
  · intro t m i hi
    rw [← Bool.not_eq_true, subB_iff]
    rcases List.mem_cons.mp m with rfl | m
    · rw [inT_iff] at hi
      exact fun h => h.2 hi
    · have := h.no t m i hi
      rw [this]; simp
  · refine List.pairwise_cons.mpr ⟨fun t m i hi => ?_, h.ap⟩
    have h1 := h.no t m i hi.2
    have h2 := (inT_iff a k i).mp hi.1
    rw [hb i h2.1 h2.2] at h1
    cases h1
  · intro i h1 h2
    by_cases hi : a ≤ i ∧ i < a + 2 ^ k
    · exact ⟨_, List.mem_cons_self .., (inT_iff a k i).mpr hi⟩
    · have : F i = false := by
        rw [← Bool.not_eq_true, subB_iff] at h2
        rw [← Bool.not_eq_true]
        exact fun h => h2 ⟨h, hi⟩
      obtain ⟨t, m, ht⟩ := h.co i h1 this
      exact ⟨t, List.mem_cons_of_mem _ m, ht⟩
theorem TkP.add {n a k : Nat} {F : Nat → Bool} {T : List Bk} (h : TkP n F (⟨a, k⟩ :: T)) : TkP n (addB F k a) T := by
  have hap := List.pairwise_cons.mp h.ap
  refine ⟨fun t m => h.ok t (List.mem_cons_of_mem _ m), fun t m i hi => ?_, hap.2, fun i h1 h2 => ?_⟩
  · rw [← Bool.not_eq_true, addB_iff, h.no t (List.mem_cons_of_mem _ m) i hi]
    intro e
    rcases e with e | e
    · cases e
    · exact hap.1 t m i ⟨(inT_iff a k i).mpr e, hi⟩
  · rw [← Bool.not_eq_true, addB_iff] at h2
    have h3 : F i = false := by rw [← Bool.not_eq_true]; exact fun e => h2 (.inl e)
    obtain ⟨t, m, ht⟩ := h.co i h1 h3
    rcases List.mem_cons.mp m with rfl | m
    · exact absurd (.inr ((inT_iff a k i).mp ht)) h2
    · exact ⟨t, m, ht⟩
theorem TkP.half {n a k : Nat} {F : Nat → Bool} {T : List Bk} (h : TkP n F (⟨a, ((k + 1 : Nat) : Int)⟩ :: T)) : TkP n (addB F k (a + 2 ^ k)) (⟨a, k⟩ :: T) := by
  have e3 := p2s k
  have hap := List.pairwise_cons.mp h.ap
  obtain ⟨a', k', e1, e2, e4, e5⟩ := h.ok _ (List.mem_cons_self ..)
  injection e1 with e1 e6
  obtain rfl : a = a' := by omega
  obtain rfl : k' = k + 1 := by omega
  have hno : ∀ i, a ≤ i → i < a + 2 ^ (k + 1) → F i = false := fun i h1 h2 => h.no _ (List.mem_cons_self ..) i ((inT_iff _ _ _).mpr ⟨h1, h2⟩)
  refine ⟨?_, ?_, ?_, ?_⟩
  · intro t m
    rcases List.mem_cons.mp m with rfl | m
    · exact ⟨a, k, rfl, by omega, mod_of_le (Nat.le_succ k) e4, by omega⟩
    · exact h.ok t (List.mem_cons_of_mem _ m)
  · intro t m i hi
    rw [← Bool.not_eq_true, addB_iff]
    rcases List.mem_cons.mp m with rfl | m
    · rw [inT_iff] at hi
      intro e
      rcases e with e | e
      · rw [hno i hi.1 (by omega)] at e; cases e
      · omega
    · intro e
      rcases e with e | e
      · rw [h.no t (List.mem_cons_of_mem _ m) i hi] at e; cases e
      · exact hap.1 t m i ⟨(inT_iff _ _ _).mpr ⟨by omega, by omega⟩, hi⟩
  · refine List.pairwise_cons.mpr ⟨fun t m i hi => hap.1 t m i ⟨?_, hi.2⟩, hap.2⟩
    have h2 := (inT_iff a k i).mp hi.1
    exact (inT_iff _ _ _).mpr ⟨h2.1, by omega⟩
  · intro i h1 h2
    rw [← Bool.not_eq_true, addB_iff] at h2
    have h3 : F i = false := by rw [← Bool.not_eq_true]; exact fun e => h2 (.inl e)
    obtain ⟨t, m, ht⟩ := h.co i h1 h3
    rcases List.mem_cons.mp m with rfl | m
    · rw [inT_iff] at ht
      exact ⟨_, List.mem_cons_self .., (inT_iff a k i).mpr ⟨ht.1, by omega⟩⟩
    · exact ⟨t, List.mem_cons_of_mem _ m, ht⟩
/-- Without the i-th. -/
def rmT (T : List Bk) (i : Nat) : List Bk := T.take i ++ T.drop (i + 1)
theorem rmT_len {T : List Bk} {i : Nat} (hi : i < T.length) : (rmT T i).length + 1 = T.length := by unfold rmT; simp; omega
theorem rmT_perm {T : List Bk} {i : Nat} (hi : i < T.length) : T.Perm (T[i] :: rmT T i) := by
  have e : T = T.take i ++ (T[i] :: T.drop (i + 1)) := by rw [← List.drop_eq_getElem_cons hi, List.take_append_drop]
  have h := List.perm_middle (a := T[i]) (l₁ := T.take i) (l₂ := T.drop (i + 1))
  rwa [← e] at h
theorem TkP.push {n a k : Nat} {F : Nat → Bool} {T : List Bk} (h : TkP n F T) (hk : k ≤ 8) (ha : a % 2 ^ k = 0) (hn : a + 2 ^ k ≤ n) (hb : blk F k a) : TkP n (subB F k a) (T ++ [⟨a, k⟩]) :=
  (h.sub hk ha hn hb).perm (List.perm_append_comm (l₁ := [_]))
theorem TkP.full {n : Nat} {F : Nat → Bool} (h : TkP n F []) (hF : ∀ i, F i = true → i < n) : F = upTo n := by
  funext i
  by_cases hi : i < n
  · have : F i = true := by
      cases hc : F i with
      | true => rfl
      | false => obtain ⟨t, m, _⟩ := h.co i hi hc; simp at m
    rw [this]; simp [upTo, hi]
  · have : F i = false := by
      cases hc : F i with
      | false => rfl
      | true => exact absurd (hF i hc) hi
    rw [this]; simp [upTo, hi]

end Go.Proofs.Ytcbkfilhgeeebaa
