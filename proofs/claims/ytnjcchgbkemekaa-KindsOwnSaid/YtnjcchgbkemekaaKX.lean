/- Kinds: the world of both: what a call keeps. -/
import Derived.Test.YtnjcchgbkemekaaKT
set_option linter.unusedVariables false
set_option linter.unusedSimpArgs false
namespace Go.Proofs.Ytnjcchgbkemekaa
open Go.RowKit Go.Own

/- Part KU: Kinds: both objects, each at its state; the calls of one. -/
/-- Where all lies. -/
structure Ad where
  B : Nat
  k : Nat
  b : Nat
  kr : Nat
  X : Nat
  x : Nat
  g : Nat
  r : Nat
  cap : Nat
  n : Nat
abbrev NN (A : Ad) : Nat → Prop := fun z => z = A.kr ∨ z = A.r
/-- The program's object at F, M, the reference's at F', M'. -/
structure Duo (w : World) (A : Ad) (F : Nat → Bool) (M : Nat → Int) (F' : Nat → Bool) (M' : Nat → Int) : Prop where
  ko : KO w A.B A.k A.b A.kr A.n F M (NN A)
  rk : RK w A.X A.x A.g A.r A.cap A.n F' M'
  bk : A.B ≤ A.k ∧ A.B ≤ A.b ∧ A.B ≤ A.kr ∧ A.B ≤ A.X ∧ A.B ≤ A.x ∧ A.B ≤ A.g ∧ A.B ≤ A.r
  ne : A.kr ≠ A.r
/-- What a call may change. -/
def KU (A : Ad) (w w' : World) : Prop := Keep (fun z => z = A.b ∨ z = A.g ∨ ((A.B ≤ z ∧ z < w.heap.size) ∧ ∃ c, w.heap[z]? = some (.cells c 3 (0, 0)))) w w'
theorem ku0 {A : Ad} {w w' : World} (k : Keep (fun _ => False) w w') : KU A w w' := k.mono fun _ _ h => h.elim
section
variable {w w' w1 : World} {A : Ad} {F F' F1 : Nat → Bool} {M M' M1 : Nat → Int}
theorem Duo.keep0 (h : Duo w A F M F' M') (k : Keep (fun _ => False) w w') : Duo w' A F M F' M' := ⟨h.ko.keep0 k, h.rk.keep0 k, h.bk, h.ne⟩
theorem Duo.prog (h : Duo w A F M F' M') (ko : KO w1 A.B A.k A.b A.kr A.n F1 M1 (NN A)) (k : KT3 A.B A.b A.kr (NN A) w w1) : Duo w1 A F1 M1 F' M' ∧ KU A w w1 := by
  obtain ⟨c, hc⟩ := h.ko.bf.hp
  have hx := h.rk.rx.1
  obtain ⟨C, hg, _⟩ := h.rk.rx.2
  obtain ⟨c2, hr⟩ := h.rk.mt.typ
  obtain ⟨c3, hkr⟩ := h.ko.mt.typ
  refine ⟨⟨ko, h.rk.keep k ?_, h.bk, h.ne⟩, k.mono fun z hz hs => ?_⟩
  · rintro z (rfl | ⟨⟨_, _, hn⟩, c4, h4⟩ | rfl)
    · exact ⟨typ_ne hc h.rk.hX (by decide), typ_ne hc hx (by decide), typ_ne hc hg (by decide), typ_ne hc hr (by decide)⟩
    · exact ⟨typ_ne h4 h.rk.hX (by decide), typ_ne h4 hx (by decide), typ_ne h4 hg (by decide), fun e => hn (.inr e)⟩
    · exact ⟨typ_ne hkr h.rk.hX (by decide), typ_ne hkr hx (by decide), typ_ne hkr hg (by decide), h.ne⟩
  · rcases hs with rfl | ⟨⟨h1, h2, _⟩, h4⟩ | rfl
    · exact .inl rfl
    · exact .inr (.inr ⟨⟨h1, h2⟩, h4⟩)
    · exact .inr (.inr ⟨⟨h.bk.2.2.1, hz⟩, c3, hkr⟩)
theorem Duo.ref (h : Duo w A F M F' M') (rk : RK w1 A.X A.x A.g A.r A.cap A.n F1 M1) (k : Keep (fun z => z = A.g ∨ z = A.r) w w1) : Duo w1 A F M F1 M1 ∧ KU A w w1 := by
  obtain ⟨c, hc⟩ := h.ko.bf.hp
  obtain ⟨C, hg, _⟩ := h.rk.rx.2
  obtain ⟨c2, hr⟩ := h.rk.mt.typ
  obtain ⟨c3, hkr⟩ := h.ko.mt.typ
  refine ⟨⟨⟨?_, (h.ko.bf.keep k ?_ ?_).gk (fun z hz => hz.1.2.2), h.ko.mt.keep k ?_, h.ko.nk, fun z hz => Nat.lt_of_lt_of_le (h.ko.nl z hz) k.size, Nat.le_trans h.ko.hB k.size⟩, rk, h.bk, h.ne⟩, k.mono fun z hz hs => ?_⟩
  · rw [k.block A.k (block_lt h.ko.hk) ?_]
    · exact h.ko.hk
    · rintro (e | e)
      · exact typ_ne h.ko.hk hg (by decide) e
      · exact typ_ne h.ko.hk hr (by decide) e
  · rintro (e | e)
    · exact typ_ne hc hg (by decide) e
    · exact typ_ne hc hr (by decide) e
  · rintro z ⟨⟨_, _, hn⟩, c4, h4⟩ (e | e)
    · exact typ_ne h4 hg (by decide) e
    · exact hn (.inr e)
  · rintro (e | e)
    · exact typ_ne hkr hg (by decide) e
    · exact h.ne e
  · rcases hs with rfl | rfl
    · exact .inr (.inl rfl)
    · exact .inr (.inr ⟨⟨h.bk.2.2.2.2.2.2, hz⟩, c2, hr⟩)
theorem Duo.other {S : Nat → Prop} (h : Duo w A F M F' M') (k : Keep S w w') (hS : ∀ z, z < w.heap.size → S z → ∃ c e, w.heap[z]? = some (.cells c e (0, 0)) ∧ (e = 40 ∨ e = 49)) : Duo w' A F M F' M' := by
  have hn : ∀ b e c, w.heap[b]? = some (.cells c e (0, 0)) → e ≠ 40 → e ≠ 49 → ¬ S b := by
    intro b e c hb h1 h2 hs
    obtain ⟨c', e', h', he⟩ := hS b (block_lt hb) hs
    rw [hb] at h'
    injection h' with h'
    injection h' with _ h' _
    subst h'
    rcases he with rfl | rfl
    · exact h1 rfl
    · exact h2 rfl
  obtain ⟨c, hc⟩ := h.ko.bf.hp
  have hx := h.rk.rx.1
  obtain ⟨C, hg, _⟩ := h.rk.rx.2
  obtain ⟨c2, hr⟩ := h.rk.mt.typ
  obtain ⟨c3, hkr⟩ := h.ko.mt.typ
  refine ⟨⟨(k.block A.k (block_lt h.ko.hk) (hn _ _ _ h.ko.hk (by decide) (by decide))).trans h.ko.hk, (h.ko.bf.keep k (hn _ _ _ hc (by decide) (by decide)) ?_).gk (fun z hz => hz.1.2.2), h.ko.mt.keep k (hn _ _ _ hkr (by decide) (by decide)), h.ko.nk, fun z hz => Nat.lt_of_lt_of_le (h.ko.nl z hz) k.size, Nat.le_trans h.ko.hB k.size⟩, h.rk.keep k ?_, h.bk, h.ne⟩
  · rintro z ⟨_, c4, h4⟩
    exact hn _ _ _ h4 (by decide) (by decide)
  · intro z hz
    refine ⟨?_, ?_, ?_, ?_⟩ <;> rintro rfl
    · exact hn _ _ _ h.rk.hX (by decide) (by decide) hz
    · exact hn _ _ _ hx (by decide) (by decide) hz
    · exact hn _ _ _ hg (by decide) (by decide) hz
    · exact hn _ _ _ hr (by decide) (by decide) hz
theorem Duo.n1024 (h : Duo w A F M F' M') : A.n ≤ 1024 := h.rk.n8.2
/-- The second call, of the reference. -/
def NxR (A : Ad) (f : Nat) (args : Array Value) (E : Value) (F1 : Nat → Bool) (M1 : Nat → Int) (F : Nat → Bool) (M : Nat → Int) : Prop :=
  ∀ w2, Duo w2 A F1 M1 F M → Calls Try.prog f args w2 fun e w3 => e = .returned E ∧ Duo w3 A F1 M1 F1 M1 ∧ KU A w2 w3
/-- The second call, of the program. -/
def NxP (A : Ad) (f : Nat) (args : Array Value) (E : Value) (F : Nat → Bool) (M : Nat → Int) (F1 : Nat → Bool) (M1 : Nat → Int) : Prop :=
  ∀ w2, Duo w2 A F M F1 M1 → Calls Try.prog f args w2 fun e w3 => e = .returned E ∧ Duo w3 A F1 M1 F1 M1 ∧ KU A w2 w3
/-- The kinds are kinds. -/
def MOK (n : Nat) (M : Nat → Int) : Prop := ∀ i, i < sec n → 0 ≤ M i ∧ M i ≤ 3
theorem MOK.set {n i : Nat} {y : Int} (h : MOK n M) (hy : 0 ≤ y ∧ y ≤ 3) : MOK n (setM M i y) := fun j hj => by
  unfold setM
  split
  · exact hy
  · exact h j hj
theorem MOK.tk {n o : Nat} {x : Int} {y : Bk} {own : Bool} (h : MOK n M) (hx : x = 0 ∨ x = 1 ∨ x = 2) : MOK n (tkM M o x y own) := fun j hj => by
  unfold tkM
  split
  · omega
  · exact h j hj

theorem duo_set (f y : Int) (h : Duo w A F M F M) (hm : MOK A.n M) :
    Calls Try.prog 24 #[.pointer (some ⟨A.k, 0, none⟩), .int .i64 f, .int .i64 y] w fun e w1 => ∃ (er : Int) (M1 : Nat → Int), e = .returned (.int .i64 er) ∧ Duo w1 A F M1 F M ∧ MOK A.n M1 ∧ KU A w w1 ∧
      NxR A 31 #[.pointer (some ⟨A.X, 0, none⟩), .int .i64 f, .int .i64 y] (.int .i64 er) F M1 F M := by
  by_cases h1 : f < 0 ∨ (sec A.n : Int) ≤ f
  · refine (kset_range f y h.ko h1).mono ?_
    rintro e w1 ⟨rfl, rfl⟩
    refine ⟨3, M, rfl, h, hm, ku0 (Keep.refl _ _), fun w2 h2 => (rset_range f y h2.rk h1).mono ?_⟩
    rintro e w3 ⟨rfl, rfl⟩
    exact ⟨rfl, h2, ku0 (Keep.refl _ _)⟩
  by_cases h2 : y < 0 ∨ 3 < y
  · refine (kset_arg f y h.ko (by omega) h2).mono ?_
    rintro e w1 ⟨rfl, rfl⟩
    refine ⟨2, M, rfl, h, hm, ku0 (Keep.refl _ _), fun w2 h3 => (rset_arg f y h3.rk (by omega) h2).mono ?_⟩
    rintro e w3 ⟨rfl, rfl⟩
    exact ⟨rfl, h3, ku0 (Keep.refl _ _)⟩
  obtain ⟨i, rfl⟩ := Int.eq_ofNat_of_zero_le (show 0 ≤ f by omega)
  refine (kset_ok i y h.ko (by omega) (by omega)).mono ?_
  rintro e w1 ⟨rfl, ko, hk⟩
  obtain ⟨d1, k1⟩ := h.prog ko (hk.mono fun _ _ e => .inr (.inr e))
  refine ⟨0, setM M i y, rfl, d1, hm.set (by omega), k1, fun w2 h3 => (rset_ok i y h3.rk (by omega) (by omega)).mono ?_⟩
  rintro e w3 ⟨rfl, rk, hk3⟩
  obtain ⟨d3, k3⟩ := h3.ref rk (hk3.mono fun _ _ e => .inr e)
  exact ⟨rfl, d3, k3⟩
theorem isBl_eq {D E : List Bk} (h : IsBl F D) (k : IsBl F E) : D = E := isBl_uniq (F := F) h.1 k.1 fun x => (h.2 x).trans (k.2 x).symm
theorem tkP_fine {D : List Bk} {n o : Nat} {x : Int} {y : Bk} {own : Bool} (hb : IsBl F D) (hF : ∀ i, F i = true → i < n) (h : tkP M D o x = some (y, own)) : fineP F n y ∧ (o : Int) ≤ y.o := by
  have hm : y ∈ pcO M D o := by
    unfold tkP at h
    cases h1 : bst M x false (pcO M D o) with
    | some z => simp only [h1] at h; injection h with h; injection h with h _; subst h; exact (bst_in h1).1
    | none =>
      cases h2 : bst M (oth2 x).1 true (pcO M D o) with
      | some z => simp only [h1, h2] at h; injection h with h; injection h with h _; subst h; exact (bst_in h2).1
      | none =>
        cases h3 : bst M (oth2 x).2 true (pcO M D o) with
        | some z => simp only [h1, h2, h3] at h; injection h with h; injection h with h _; subst h; exact (bst_in h3).1
        | none => simp only [h1, h2, h3] at h; cases h
  exact pcO_fine hb hF hm
theorem duo_take (o x : Int) (h : Duo w A F M F M) (hm : MOK A.n M) :
    Calls Try.prog 13 #[.pointer (some ⟨A.k, 0, none⟩), .int .i64 o, .int .i64 x] w fun e w1 => ∃ (a er : Int) (F1 : Nat → Bool) (M1 : Nat → Int), e = .returned (.tuple #[.int .i64 a, .int .i64 er]) ∧ Duo w1 A F1 M1 F M ∧ MOK A.n M1 ∧ KU A w w1 ∧
      NxR A 30 #[.pointer (some ⟨A.X, 0, none⟩), .int .i64 o, .int .i64 x] (.tuple #[.int .i64 a, .int .i64 er]) F1 M1 F M ∧
      ((er ≠ 0 ∧ F1 = F) ∨ (er = 0 ∧ ∃ (a' o' : Nat), a = a' ∧ o = o' ∧ o' ≤ 8 ∧ a' % 2 ^ o' = 0 ∧ blk F o' a' ∧ F1 = subB F o' a')) := by
  by_cases h1 : o < 0 ∨ 8 < o ∨ x < 0 ∨ 2 < x
  · refine (ktake_bad A.k o x h1 w).mono ?_
    rintro e w1 ⟨rfl, rfl⟩
    refine ⟨0, 2, F, M, rfl, h, hm, ku0 (Keep.refl _ _), fun w2 h2 => (rtake_bad A.X o x h1 w2).mono ?_, .inl ⟨by decide, rfl⟩⟩
    rintro e w3 ⟨rfl, rfl⟩
    exact ⟨rfl, h2, ku0 (Keep.refl _ _)⟩
  obtain ⟨q, rfl⟩ := Int.eq_ofNat_of_zero_le (show 0 ≤ o by omega)
  have hx : x = 0 ∨ x = 1 ∨ x = 2 := by omega
  have hq : q ≤ 8 := by omega
  have hF := h.ko.bf.fin
  refine (ktake_any q x h.ko hq hx).mono ?_
  rintro e w1 ⟨D, hD, ⟨ht, rfl, hk⟩ | ⟨y, own, ht, rfl, ko, hk⟩⟩
  · refine ⟨0, 8, F, M, rfl, h.keep0 hk, hm, ku0 hk, fun w2 h2 => (rtake_any q x h2.rk hF hq hx).mono ?_, .inl ⟨by decide, rfl⟩⟩
    rintro e w3 ⟨D', hD', ⟨ht', rfl, hk3⟩ | ⟨y', own', ht', _⟩⟩
    · exact ⟨rfl, h2.keep0 hk3, ku0 hk3⟩
    · rw [isBl_eq hD' hD, ht] at ht'; cases ht'
  · obtain ⟨d1, k1⟩ := h.prog ko hk
    obtain ⟨⟨a, k, rfl, hk8, hak, hb, hend⟩, ho⟩ := tkP_fine hD hF ht
    have hok : q ≤ k := by simpa using ho
    refine ⟨a, 0, subB F q a, _, rfl, by simpa using d1, hm.tk hx, k1, fun w2 h2 => (rtake_any q x h2.rk hF hq hx).mono ?_, .inr ⟨rfl, a, q, rfl, rfl, hq, ?_, ?_, rfl⟩⟩
    · rintro e w3 ⟨D', hD', ⟨ht', _⟩ | ⟨y', own', ht', rfl, rk, hk3⟩⟩
      · rw [isBl_eq hD' hD, ht] at ht'; cases ht'
      · rw [isBl_eq hD' hD, ht] at ht'
        injection ht' with ht'
        injection ht' with e1 e2
        subst e1; subst e2
        obtain ⟨d3, k3⟩ := h2.ref rk hk3
        exact ⟨rfl, by simpa using d3, k3⟩
    · exact Nat.mod_eq_zero_of_dvd (Nat.dvd_trans (Nat.pow_dvd_pow 2 hok) (Nat.dvd_of_mod_eq_zero hak))
    · exact blk_in hb (Nat.le_refl _) (by have := Nat.pow_le_pow_right (n := 2) (by decide) hok; omega)
end

/- Part KV: Buddy: what was taken, the plain law. -/
/-- Frame i is one of block t's. -/
def inT (t : Bk) (i : Nat) : Prop := t.f ≤ (i : Int) ∧ (i : Int) < t.f + ((2 ^ t.o.toNat : Nat) : Int)
def okT (n : Nat) (t : Bk) : Prop := ∃ a k : Nat, t = ⟨a, k⟩ ∧ k ≤ 8 ∧ a % 2 ^ k = 0 ∧ a + 2 ^ k ≤ n
/-- T are the blocks that are not free: apart, and all that is not free lies in one. -/
structure TkP (n : Nat) (F : Nat → Bool) (T : List Bk) : Prop where
  ok : ∀ t, t ∈ T → okT n t
  no : ∀ t, t ∈ T → ∀ i, inT t i → F i = false
  ap : T.Pairwise (fun x y => ∀ i, ¬ (inT x i ∧ inT y i))
  co : ∀ i, i < n → F i = false → ∃ t, t ∈ T ∧ inT t i
theorem inT_iff (a k i : Nat) : inT ⟨a, k⟩ i ↔ a ≤ i ∧ i < a + 2 ^ k := by
  unfold inT
  simp only [Int.toNat_natCast]
  omega
theorem TkP.start (n : Nat) : TkP n (upTo n) [] :=
  ⟨fun t h => by simp at h, fun t h => by simp at h, .nil, fun i h1 h2 => by simp [upTo] at h2; omega⟩
theorem TkP.perm {n : Nat} {F : Nat → Bool} {T R : List Bk} (h : TkP n F T) (p : T.Perm R) : TkP n F R :=
  ⟨fun t m => h.ok t (p.mem_iff.mpr m), fun t m => h.no t (p.mem_iff.mpr m), (List.Perm.pairwise_iff (fun {x y} hxy i hi => hxy i ⟨hi.2, hi.1⟩) p).mp h.ap,
    fun i h1 h2 => by obtain ⟨t, m, ht⟩ := h.co i h1 h2; exact ⟨t, p.mem_iff.mp m, ht⟩⟩
theorem TkP.sub {n a k : Nat} {F : Nat → Bool} {T : List Bk} (h : TkP n F T) (hk : k ≤ 8) (ha : a % 2 ^ k = 0) (hn : a + 2 ^ k ≤ n) (hb : blk F k a) : TkP n (subB F k a) (⟨a, k⟩ :: T) := by
  refine ⟨?_, ?_, ?_, ?_⟩
  · intro t m
    rcases List.mem_cons.mp m with rfl | m
    · exact ⟨a, k, rfl, hk, ha, hn⟩
    · exact h.ok t m
  · intro t m i hi
    rw [← Bool.not_eq_true, subB_iff]
    rcases List.mem_cons.mp m with rfl | m
    · rw [inT_iff] at hi
      exact fun h => h.2 hi
    · have := h.no t m i hi
      rw [this]; simp
  · refine List.pairwise_cons.mpr ⟨fun t m i hi => ?_, h.ap⟩
    have h1 := h.no t m i hi.2
    have h2 := (inT_iff a k i).mp hi.1
    rw [hb i h2.1 h2.2] at h1
    cases h1
  · intro i h1 h2
    by_cases hi : a ≤ i ∧ i < a + 2 ^ k
    · exact ⟨_, List.mem_cons_self .., (inT_iff a k i).mpr hi⟩
    · have : F i = false := by
        rw [← Bool.not_eq_true, subB_iff] at h2
        rw [← Bool.not_eq_true]
        exact fun h => h2 ⟨h, hi⟩
      obtain ⟨t, m, ht⟩ := h.co i h1 this
      exact ⟨t, List.mem_cons_of_mem _ m, ht⟩
theorem TkP.add {n a k : Nat} {F : Nat → Bool} {T : List Bk} (h : TkP n F (⟨a, k⟩ :: T)) : TkP n (addB F k a) T := by
  have hap := List.pairwise_cons.mp h.ap
  refine ⟨fun t m => h.ok t (List.mem_cons_of_mem _ m), fun t m i hi => ?_, hap.2, fun i h1 h2 => ?_⟩
  · rw [← Bool.not_eq_true, addB_iff, h.no t (List.mem_cons_of_mem _ m) i hi]
    intro e
    rcases e with e | e
    · cases e
    · exact hap.1 t m i ⟨(inT_iff a k i).mpr e, hi⟩
  · rw [← Bool.not_eq_true, addB_iff] at h2
    have h3 : F i = false := by rw [← Bool.not_eq_true]; exact fun e => h2 (.inl e)
    obtain ⟨t, m, ht⟩ := h.co i h1 h3
    rcases List.mem_cons.mp m with rfl | m
    · exact absurd (.inr ((inT_iff a k i).mp ht)) h2
    · exact ⟨t, m, ht⟩
theorem TkP.half {n a k : Nat} {F : Nat → Bool} {T : List Bk} (h : TkP n F (⟨a, ((k + 1 : Nat) : Int)⟩ :: T)) : TkP n (addB F k (a + 2 ^ k)) (⟨a, k⟩ :: T) := by
  have e3 := p2s k
  have hap := List.pairwise_cons.mp h.ap
  obtain ⟨a', k', e1, e2, e4, e5⟩ := h.ok _ (List.mem_cons_self ..)
  injection e1 with e1 e6
  obtain rfl : a = a' := by omega
  obtain rfl : k' = k + 1 := by omega
  have hno : ∀ i, a ≤ i → i < a + 2 ^ (k + 1) → F i = false := fun i h1 h2 => h.no _ (List.mem_cons_self ..) i ((inT_iff _ _ _).mpr ⟨h1, h2⟩)
  refine ⟨?_, ?_, ?_, ?_⟩
  · intro t m
    rcases List.mem_cons.mp m with rfl | m
    · exact ⟨a, k, rfl, by omega, mod_of_le (Nat.le_succ k) e4, by omega⟩
    · exact h.ok t (List.mem_cons_of_mem _ m)
  · intro t m i hi
    rw [← Bool.not_eq_true, addB_iff]
    rcases List.mem_cons.mp m with rfl | m
    · rw [inT_iff] at hi
      intro e
      rcases e with e | e
      · rw [hno i hi.1 (by omega)] at e; cases e
      · omega
    · intro e
      rcases e with e | e
      · rw [h.no t (List.mem_cons_of_mem _ m) i hi] at e; cases e
      · exact hap.1 t m i ⟨(inT_iff _ _ _).mpr ⟨by omega, by omega⟩, hi⟩
  · refine List.pairwise_cons.mpr ⟨fun t m i hi => hap.1 t m i ⟨?_, hi.2⟩, hap.2⟩
    have h2 := (inT_iff a k i).mp hi.1
    exact (inT_iff _ _ _).mpr ⟨h2.1, by omega⟩
  · intro i h1 h2
    rw [← Bool.not_eq_true, addB_iff] at h2
    have h3 : F i = false := by rw [← Bool.not_eq_true]; exact fun e => h2 (.inl e)
    obtain ⟨t, m, ht⟩ := h.co i h1 h3
    rcases List.mem_cons.mp m with rfl | m
    · rw [inT_iff] at ht
      exact ⟨_, List.mem_cons_self .., (inT_iff a k i).mpr ⟨ht.1, by omega⟩⟩
    · exact ⟨t, List.mem_cons_of_mem _ m, ht⟩
/-- Without the i-th. -/
def rmT (T : List Bk) (i : Nat) : List Bk := T.take i ++ T.drop (i + 1)
theorem rmT_len {T : List Bk} {i : Nat} (hi : i < T.length) : (rmT T i).length + 1 = T.length := by unfold rmT; simp; omega
theorem rmT_perm {T : List Bk} {i : Nat} (hi : i < T.length) : T.Perm (T[i] :: rmT T i) := by
  have e : T = T.take i ++ (T[i] :: T.drop (i + 1)) := by rw [← List.drop_eq_getElem_cons hi, List.take_append_drop]
  have h := List.perm_middle (a := T[i]) (l₁ := T.take i) (l₂ := T.drop (i + 1))
  rwa [← e] at h
theorem TkP.push {n a k : Nat} {F : Nat → Bool} {T : List Bk} (h : TkP n F T) (hk : k ≤ 8) (ha : a % 2 ^ k = 0) (hn : a + 2 ^ k ≤ n) (hb : blk F k a) : TkP n (subB F k a) (T ++ [⟨a, k⟩]) :=
  (h.sub hk ha hn hb).perm (List.perm_append_comm (l₁ := [_]))
theorem TkP.full {n : Nat} {F : Nat → Bool} (h : TkP n F []) (hF : ∀ i, F i = true → i < n) : F = upTo n := by
  funext i
  by_cases hi : i < n
  · have : F i = true := by
      cases hc : F i with
      | true => rfl
      | false => obtain ⟨t, m, _⟩ := h.co i hi hc; simp at m
    rw [this]; simp [upTo, hi]
  · have : F i = false := by
      cases hc : F i with
      | false => rfl
      | true => exact absurd (hF i hc) hi
    rw [this]; simp [upTo, hi]

/- Part KW: Kinds: Give, and Change with TakeAt, of both. -/
def i64B (f : Int) : Prop := -9223372036854775808 ≤ f ∧ f ≤ 9223372036854775807
theorem allB_free {F : Nat → Bool} {n f P : Nat} (h : f + P ≤ n) : allB F n f P false ↔ ∀ i, f ≤ i → i < f + P → F i = false := by
  constructor
  · intro ha i h1 h2
    have := (ha (i - f) (by omega)).2
    rwa [show f + (i - f) = i by omega] at this
  · intro ha i hi
    exact ⟨by omega, ha (f + i) (by omega) (by omega)⟩
section
variable {w w' w1 : World} {A : Ad} {F F' F1 : Nat → Bool} {M M' M1 : Nat → Int}
theorem duo_give {a k : Nat} (h : Duo w A F M F M) (hk : k ≤ 8) (ha : a % 2 ^ k = 0) (hn : a + 2 ^ k ≤ A.n) (hb : ∀ i, a ≤ i → i < a + 2 ^ k → F i = false) :
    Calls Try.prog 23 #[.pointer (some ⟨A.k, 0, none⟩), .int .i64 a, .int .i64 k] w fun e w1 => e = .returned (.int .i64 0) ∧ Duo w1 A (addB F k a) M F M ∧ KU A w w1 ∧
      NxR A 32 #[.pointer (some ⟨A.x, 0, none⟩), .int .i64 a, .int .i64 k, .bool true] (.int .i64 0) (addB F k a) M F M := by
  have hw := wrE_zero hk ha hn
  have hf : i64B (a : Int) := by unfold i64B; have := h.n1024; have := p2 k; omega
  refine (kgive_pass (a : Int) (k : Int) h.ko (fun er w1 => er = 0 ∧ Duo w1 A (addB F k a) M F M ∧ KU A w w1) ?_).mono ?_
  · refine (give_ok h.ko.hB h.ko.bf (fun z hz => hz.1.2.1) hw hk ha hn hb).mono ?_
    rintro e w1 ⟨rfl, ht⟩
    obtain ⟨h1, h2⟩ := h.ko.took ht
    exact ⟨0, rfl, rfl, h.prog h1 (h2.mono fun z _ hz => hz.imp id .inl)⟩
  · rintro e w1 ⟨er, rfl, rfl, h1, h2⟩
    refine ⟨rfl, h1, h2, fun w2 h3 => (rchange_any (a : Int) (k : Int) true h3.rk.rx h.n1024 hf).mono ?_⟩
    rintro e w3 (⟨h0, _⟩ | ⟨_, f', o', e1, e2, _, _, _, ⟨h4, _⟩ | ⟨_, rfl, hr, hk3⟩⟩)
    · exact absurd hw h0
    · obtain rfl : a = f' := by omega
      obtain rfl : k = o' := by omega
      exact absurd ((allB_free hn).mpr hb) h4
    · obtain rfl : a = f' := by omega
      obtain rfl : k = o' := by omega
      rw [putB_true] at hr
      obtain ⟨d3, k3⟩ := h3.ref ⟨(hk3.block _ (block_lt h3.rk.hX) (by obtain ⟨C, hg, _⟩ := h3.rk.rx.2; exact typ_ne h3.rk.hX hg (by decide))).trans h3.rk.hX, hr, h3.rk.mt.keep hk3 (by obtain ⟨C, hg, _⟩ := h3.rk.rx.2; obtain ⟨c2, h2⟩ := h3.rk.mt.typ; exact typ_ne h2 hg (by decide)), h3.rk.n8⟩ (hk3.mono fun _ _ e => .inl e)
      exact ⟨rfl, d3, k3⟩
theorem RK.chg {F1 : Nat → Bool} {X x g r cap n : Nat} (h : RK w X x g r cap n F M) (hr : RX w' x g n F1) (hk : Keep (fun z => z = g) w w') : RK w' X x g r cap n F1 M := by
  obtain ⟨C, hg, _⟩ := h.rx.2
  obtain ⟨c2, h2⟩ := h.mt.typ
  exact ⟨(hk.block _ (block_lt h.hX) (typ_ne h.hX hg (by decide))).trans h.hX, hr, h.mt.keep hk (typ_ne h2 hg (by decide)), h.n8⟩
/-- The program's TakeAt. -/
theorem duo_at_bad {f o : Int} (h : Duo w A F M F' M') (hw : wrE A.n f o ≠ 0) :
    Calls Try.prog 22 #[.pointer (some ⟨A.k, 0, none⟩), .int .i64 f, .int .i64 o] w fun e w1 => e = .returned (.int .i64 (wrE A.n f o)) ∧ Keep (fun _ => False) w w1 := by
  refine (kat_pass f o h.ko (fun er w1 => er = wrE A.n f o ∧ Keep (fun _ => False) w w1) ?_).mono ?_
  · refine (takeAt_bad f o h.ko.bf hw).mono ?_
    rintro e w1 ⟨rfl, hk⟩
    exact ⟨_, rfl, rfl, hk⟩
  · rintro e w1 ⟨er, rfl, rfl, hk⟩
    exact ⟨rfl, hk⟩
theorem duo_chg (f o : Int) (hf : i64B f) (h : Duo w A F M F M) :
    Calls Try.prog 32 #[.pointer (some ⟨A.x, 0, none⟩), .int .i64 f, .int .i64 o, .bool false] w fun e w1 => ∃ (er : Int) (F1 : Nat → Bool), e = .returned (.int .i64 er) ∧ Duo w1 A F M F1 M ∧ KU A w w1 ∧
      NxP A 22 #[.pointer (some ⟨A.k, 0, none⟩), .int .i64 f, .int .i64 o] (.int .i64 er) F M F1 M ∧
      ((er ≠ 0 ∧ F1 = F) ∨ (er = 0 ∧ ∃ (a' o' : Nat), f = a' ∧ o = o' ∧ o' ≤ 8 ∧ a' % 2 ^ o' = 0 ∧ blk F o' a' ∧ F1 = subB F o' a')) := by
  have hF := h.ko.bf.fin
  refine (rchange_any f o false h.rk.rx h.n1024 hf).mono ?_
  rintro e w1 (⟨h0, rfl, hk⟩ | ⟨h0, f', o', rfl, rfl, ho, hfo, hfn, ⟨h4, rfl, hk⟩ | ⟨h4, rfl, hr, hk⟩⟩)
  · refine ⟨_, F, rfl, h.keep0 hk, ku0 hk, fun w2 h2 => (duo_at_bad h2 h0).mono ?_, .inl ⟨h0, rfl⟩⟩
    rintro e w3 ⟨rfl, hk3⟩
    exact ⟨rfl, h2.keep0 hk3, ku0 hk3⟩
  · have hb : ¬ blk F o' f' := fun hb => h4 ((allB_blk hF).mpr hb)
    refine ⟨_, F, rfl, h.keep0 hk, ku0 hk, fun w2 h2 => (kat_pass (f' : Int) (o' : Int) h2.ko (fun er w3 => er = 12 ∧ Keep (fun _ => False) w2 w3) ?_).mono ?_, .inl ⟨by decide, rfl⟩⟩
    · refine (takeAt_busy h2.ko.bf h0 ho hfo hfn hb).mono ?_
      rintro e w3 ⟨rfl, hk3⟩
      exact ⟨_, rfl, rfl, hk3⟩
    · rintro e w3 ⟨er, rfl, rfl, hk3⟩
      exact ⟨rfl, h2.keep0 hk3, ku0 hk3⟩
  · have hb : blk F o' f' := (allB_blk hF).mp h4
    rw [putB_false] at hr
    obtain ⟨d1, k1⟩ := h.ref (h.rk.chg hr hk) (hk.mono fun _ _ e => .inl e)
    refine ⟨0, subB F o' f', rfl, d1, k1, fun w2 h2 => (kat_pass (f' : Int) (o' : Int) h2.ko (fun er w3 => er = 0 ∧ Duo w3 A (subB F o' f') M (subB F o' f') M ∧ KU A w2 w3) ?_).mono ?_, .inr ⟨rfl, f', o', rfl, rfl, ho, hfo, hb, rfl⟩⟩
    · refine (takeAt_ok h2.ko.hB h2.ko.bf (fun z hz => hz.1.2.1) h0 ho hfo hfn hb).mono ?_
      rintro e w3 ⟨rfl, ht⟩
      obtain ⟨h5, h6⟩ := h2.ko.took ht
      exact ⟨0, rfl, rfl, h2.prog h5 (h6.mono fun z _ hz => hz.imp id .inl)⟩
    · rintro e w3 ⟨er, rfl, rfl, h5, h6⟩
      exact ⟨rfl, h5, h6⟩
end

/- Part KX: Kinds: the world of both: what a call keeps. -/
/-- What may have changed lies beyond B. -/
def Up (B : Nat) (w w' : World) : Prop := Keep (fun z => B ≤ z) w w'
theorem Up.of {B : Nat} {w w' : World} (h : Keep (fun _ => False) w w') : Up B w w' := h.mono fun _ _ h => h.elim
/-- Both objects, and what was taken. -/
structure St (w : World) (A : Ad) (q : Nat) (F : Nat → Bool) (M : Nat → Int) (F' : Nat → Bool) (M' : Nat → Int) (v : Value) (T : List Bk) : Prop where
  duo : Duo w A F M F' M'
  hq : w.heap[q]? = some (.cells #[.pointer (some ⟨A.k, 0, none⟩), .pointer (some ⟨A.X, 0, none⟩), v] 40 (0, 0))
  own : OwnL bkE w A.B 49 v T
  bq : A.B ≤ q
section
variable {w w' w1 w'' : World} {A : Ad} {q : Nat} {F F' F1 F1' : Nat → Bool} {M M' M1 M1' : Nat → Int} {v v' : Value} {T T' : List Bk}
theorem St.base (h : St w A q F M F' M' v T) : A.B ≤ w.heap.size := h.duo.ko.hB
theorem St.put (h : St w A q F M F' M' v T) (k : Keep (fun z => v.ownBlock = some z) w w') (ho : OwnL bkE w' A.B 49 v' T') :
    St (w'.setCell ⟨q, 2, none⟩ v') A q F M F' M' v' T' ∧ Up A.B w (w'.setCell ⟨q, 2, none⟩ v') := by
  have hq := h.hq
  have hq' : w'.heap[q]? = some (.cells #[.pointer (some ⟨A.k, 0, none⟩), .pointer (some ⟨A.X, 0, none⟩), v] 40 (0, 0)) := by
    rw [k.block q (block_lt hq) ?_]
    · exact hq
    · intro e
      obtain ⟨c, hc⟩ := own_typ h.own e
      exact typ_ne hq hc (by decide) rfl
  have K1 : Keep (fun z => z = q ∨ v.ownBlock = some z) w (w'.setCell ⟨q, 2, none⟩ v') := (k.mono fun _ _ h => .inr h).setCell (fun _ => .inl rfl) _
  have K2 : Keep (fun z => z = q) w' (w'.setCell ⟨q, 2, none⟩ v') := (Keep.refl (fun z => z = q) w').setCell (p := ⟨q, 2, none⟩) (fun _ => rfl) v'
  refine ⟨⟨h.duo.other K1 ?_, ?_, ho.keep K2 ?_, h.bq⟩, K1.mono ?_⟩
  · rintro z _ (rfl | e)
    · exact ⟨_, _, hq, .inl rfl⟩
    · obtain ⟨c, hc⟩ := own_typ h.own e
      exact ⟨_, _, hc, .inr rfl⟩
  · rw [heap_setCell_eq hq']; simp
  · intro z hz e
    subst e
    obtain ⟨c, hc⟩ := own_typ ho hz
    exact typ_ne hq' hc (by decide) rfl
  · rintro z _ (rfl | e)
    · exact h.bq
    · exact (h.own.lt z e).1
theorem ku_block {b e : Nat} {c : Array Value} (h : Duo w A F M F' M') (k : KU A w w') (hb : w.heap[b]? = some (.cells c e (0, 0))) (he : e ≠ 83 ∧ e ≠ 3 ∧ e ≠ 4) : w'.heap[b]? = some (.cells c e (0, 0)) := by
  rw [k.block b (block_lt hb) ?_]
  · exact hb
  · rintro (rfl | rfl | ⟨_, c2, h2⟩)
    · obtain ⟨c, hc⟩ := h.ko.bf.hp
      exact typ_ne hb hc he.1 rfl
    · obtain ⟨C, hg, _⟩ := h.rk.rx.2
      exact typ_ne hb hg he.2.2 rfl
    · exact typ_ne hb h2 he.2.1 rfl
theorem ku_up (h : Duo w A F M F' M') (k : KU A w w') : Up A.B w w' := k.mono fun z _ hz => by
  rcases hz with rfl | rfl | ⟨h1, _⟩
  · exact h.bk.2.1
  · exact h.bk.2.2.2.2.2.1
  · exact h1.1
theorem ku_on (K : Keep (fun _ => False) w w1) (k : KU A w1 w') : KU A w w' := by
  refine ⟨k.os.trans K.os, k.tape.trans K.tape, k.output.trans K.output, Nat.le_trans K.size k.size, fun z hz hs => ?_⟩
  rw [k.block z (Nat.lt_of_lt_of_le hz K.size) ?_]
  · exact K.block z hz id
  · rintro (h | h | ⟨⟨h1, _⟩, c, h2⟩)
    · exact hs (.inl h)
    · exact hs (.inr (.inl h))
    · exact hs (.inr (.inr ⟨⟨h1, hz⟩, c, (K.block z hz id).symm.trans h2⟩))
theorem St.on (h : St w A q F M F' M' v T) (k : KU A w w') (h2 : Duo w' A F1 M1 F1' M1') : St w' A q F1 M1 F1' M1' v T := by
  refine ⟨h2, ku_block h.duo k h.hq (by decide), h.own.keep k ?_, h.bq⟩
  intro z hz hs
  obtain ⟨c, hc⟩ := own_typ h.own hz
  rcases hs with rfl | rfl | ⟨_, c2, h2⟩
  · obtain ⟨c', hc'⟩ := h.duo.ko.bf.hp
    exact typ_ne hc hc' (by decide) rfl
  · obtain ⟨C, hg, _⟩ := h.duo.rk.rx.2
    exact typ_ne hc hg (by decide) rfl
  · exact typ_ne hc h2 (by decide) rfl
theorem St.keep0 (h : St w A q F M F' M' v T) (k : Keep (fun _ => False) w w') : St w' A q F M F' M' v T :=
  ⟨h.duo.keep0 k, (k.block q (block_lt h.hq) id).trans h.hq, h.own.keep k (fun _ _ => id), h.bq⟩
/-- The world's row of what was taken. -/
def Own40 (w : World) (q : Nat) (v : Value) : Prop := ∃ x y, w.heap[q]? = some (.cells #[x, y, v] 40 (0, 0))
/-- Other rows of blocks stay. -/
def Off (q : Nat) (w w' : World) : Prop := ∀ v, Own40 w q v → ∃ v', Own40 w' q v' ∧ ∀ b c, w.heap[b]? = some (.cells c 49 (0, 0)) → v.ownBlock ≠ some b → w'.heap[b]? = some (.cells c 49 (0, 0)) ∧ v'.ownBlock ≠ some b
theorem Off.trans (h : Off q w w') (k : Off q w' w'') : Off q w w'' := fun v hv => by
  obtain ⟨v', h1, h2⟩ := h v hv
  obtain ⟨v'', k1, k2⟩ := k v' h1
  exact ⟨v'', k1, fun b c hb hn => by
    obtain ⟨h3, h4⟩ := h2 b c hb hn
    exact k2 b c h3 h4⟩
theorem Off.of (K : Keep (fun _ => False) w w') : Off q w w' := fun v ⟨x, y, h⟩ =>
  ⟨v, ⟨x, y, (K.block q (block_lt h) id).trans h⟩, fun b c hb hn => ⟨(K.block b (block_lt hb) id).trans hb, hn⟩⟩
theorem Off.ku (h : Duo w A F M F' M') (k : KU A w w') : Off q w w' := fun v ⟨a, b, hq⟩ =>
  ⟨v, ⟨a, b, ku_block h k hq (by decide)⟩, fun _ _ hb hn => ⟨ku_block h k hb (by decide), hn⟩⟩
theorem St.put_off (h : St w A q F M F' M' v T) (k : Keep (fun z => v.ownBlock = some z) w w') (hv : ∀ z, v'.ownBlock = some z → v.ownBlock = some z ∨ w.heap.size ≤ z) :
    Off q w (w'.setCell ⟨q, 2, none⟩ v') := by
  rintro v1 ⟨a, b, hq1⟩
  have hq := h.hq
  rw [hq] at hq1
  injection hq1 with hq1
  injection hq1 with hq1 _ _
  obtain rfl : v = v1 := by simpa using congrArg (fun c : Array Value => c.getD 2 (.slice none 0 0)) hq1
  have hq' : w'.heap[q]? = some (.cells #[.pointer (some ⟨A.k, 0, none⟩), .pointer (some ⟨A.X, 0, none⟩), v] 40 (0, 0)) := by
    rw [k.block q (block_lt hq) ?_]
    · exact hq
    · intro e
      obtain ⟨c, hc⟩ := own_typ h.own e
      exact typ_ne hq hc (by decide) rfl
  refine ⟨v', ⟨_, _, by rw [heap_setCell_eq hq']; simp; exact ⟨rfl, rfl⟩⟩, fun z c hz hn => ⟨?_, fun e => ?_⟩⟩
  · rw [heap_setCell_ne (typ_ne hz hq (by decide))]
    exact (k.block z (block_lt hz) hn).trans hz
  · rcases hv z e with e | e
    · exact hn e
    · have := block_lt hz; omega
/-- What is beyond B may have changed, but no other row of blocks. -/
structure UpO (q B : Nat) (w w' : World) : Prop where
  up : Up B w w'
  off : Off q w w'
theorem UpO.trans {B : Nat} (h : UpO q B w w') (k : UpO q B w' w'') : UpO q B w w'' := ⟨Keep.trans h.up k.up, h.off.trans k.off⟩
theorem UpO.of {B : Nat} (K : Keep (fun _ => False) w w') : UpO q B w w' := ⟨Up.of K, Off.of K⟩
theorem UpO.ku (h : Duo w A F M F' M') (k : KU A w w') : UpO q A.B w w' := ⟨ku_up h k, Off.ku h k⟩
theorem St.putO (h : St w A q F M F' M' v T) (k : Keep (fun z => v.ownBlock = some z) w w') (ho : OwnL bkE w' A.B 49 v' T') (hv : ∀ z, v'.ownBlock = some z → v.ownBlock = some z ∨ w.heap.size ≤ z) :
    St (w'.setCell ⟨q, 2, none⟩ v') A q F M F' M' v' T' ∧ UpO q A.B w (w'.setCell ⟨q, 2, none⟩ v') := ⟨(h.put k ho).1, (h.put k ho).2, h.put_off k hv⟩
theorem own_ne {b e : Nat} {c : Array Value} (h : St w A q F M F' M' v T) (hb : w.heap[b]? = some (.cells c e (0, 0))) (he : e ≠ 49) : ¬ v.ownBlock = some b := fun e => by
  obtain ⟨c, hc⟩ := own_typ h.own e
  exact typ_ne hb hc he rfl
end
/-- Both, and what was taken. -/
def Wd (w : World) (A : Ad) (q : Nat) (F : Nat → Bool) (M : Nat → Int) (T : List Bk) : Prop := ∃ v, St w A q F M F M v T ∧ TkP A.n F T ∧ MOK A.n M
theorem Wd.keep0 {w w' : World} {A : Ad} {q : Nat} {F : Nat → Bool} {M : Nat → Int} {T : List Bk} (h : Wd w A q F M T) (k : Keep (fun _ => False) w w') : Wd w' A q F M T := by
  obtain ⟨v, h1, h2⟩ := h
  exact ⟨v, h1.keep0 k, h2⟩
/-- What do does: one more or one less is taken. -/
def DoC (w : World) (A : Ad) (q : Nat) (T : List Bk) (e : Ending) (w' : World) : Prop :=
  e = .returned (.bool true) ∧ ∃ F' M' T', Wd w' A q F' M' T' ∧ T'.length ≤ T.length + 1 ∧ UpO q A.B w w'
theorem own_conv {w : World} {C B m : Nat} {v : Value} {cs : List Value} {T : List Bk} (h : w.ownsRow C 49 2 v m cs) (hm : m = T.length) (hc : cs = bkE.cs T) (hB : B ≤ C) : OwnL bkE w B 49 v T := by
  subst hm; subst hc
  exact OwnL.base (C := B) (B := C) h fun x hx => by have := (World.ownsRow.lt h x hx).1; omega
theorem cells5 {w : World} {b e : Nat} {x0 x1 x2 x3 x4 : Value} {z : Nat × Nat} (hb : w.heap[b]? = some (.cells #[x0, x1, x2, x3, x4] e z)) :
    w.cell? ⟨b, 0, none⟩ = some x0 ∧ w.cell? ⟨b, 1, none⟩ = some x1 ∧ w.cell? ⟨b, 2, none⟩ = some x2 ∧ w.cell? ⟨b, 3, none⟩ = some x3 ∧ w.cell? ⟨b, 4, none⟩ = some x4 := by simp [cell_block hb]
theorem keepS3 {S : Nat → Prop} {w W : World} {p i b j : Nat} {v u : Value} (h : Keep S w W) (hp : ¬ S p) (hb : ¬ S b) (hc : w.cell? ⟨p, i, none⟩ = some v) (fz : w.frozen? ⟨p, i, none⟩ = false) (hd : w.cell? ⟨b, j, none⟩ = some u) :
    W.cell? ⟨p, i, none⟩ = some v ∧ W.frozen? ⟨p, i, none⟩ = false ∧ W.cell? ⟨b, j, none⟩ = some u :=
  ⟨(h.cell (block_lt_cell hc) hp).trans hc, (h.frozen (block_lt_cell hc) hp).trans fz, (h.cell (block_lt_cell hd) hb).trans hd⟩
theorem keepS4 {S : Nat → Prop} {w W : World} {p i b j k : Nat} {v u u' : Value} (h : Keep S w W) (hp : ¬ S p) (hb : ¬ S b) (hc : w.cell? ⟨p, i, none⟩ = some v) (fz : w.frozen? ⟨p, i, none⟩ = false) (hd : w.cell? ⟨b, j, none⟩ = some u) (hd' : w.cell? ⟨b, k, none⟩ = some u') :
    W.cell? ⟨p, i, none⟩ = some v ∧ W.frozen? ⟨p, i, none⟩ = false ∧ W.cell? ⟨b, j, none⟩ = some u ∧ W.cell? ⟨b, k, none⟩ = some u' :=
  ⟨(h.cell (block_lt_cell hc) hp).trans hc, (h.frozen (block_lt_cell hc) hp).trans fz, (h.cell (block_lt_cell hd) hb).trans hd, (h.cell (block_lt_cell hd') hb).trans hd'⟩
theorem sw3 {K : Int} (h : K = 0 ∨ K = 1 ∨ K = 2) : (K == 0) = true ∨ ((K == 0) = false ∧ (K == 1) = true) ∨ ((K == 0) = false ∧ (K == 1) = false ∧ (K == 2) = true) := by
  rcases h with rfl | rfl | rfl
  · exact .inl rfl
  · exact .inr (.inl ⟨rfl, rfl⟩)
  · exact .inr (.inr ⟨rfl, rfl, rfl⟩)
theorem sw5 {K : Int} (h : K ≠ 0 ∧ K ≠ 1 ∧ K ≠ 2 ∧ K ≠ 3 ∧ K ≠ 4) : (K == 0) = false ∧ (K == 1) = false ∧ (K == 2) = false ∧ (K == 3) = false ∧ (K == 4) = false := by simp; exact h

end Go.Proofs.Ytnjcchgbkemekaa
