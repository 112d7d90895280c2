/- Reservations: both, through one call. -/
import Derived.Test.YtmbgebmhdofdaaaAC
set_option linter.unusedVariables false
set_option linter.unusedSimpArgs false
namespace Go.Proofs.Ytmbgebmhdofdaaa
open Go.RowKit Go.Own

theorem typ_ne {w : World} {a b : Nat} {c1 c2 : Array Value} {e1 e2 : TypeId} {z1 z2 : Nat × Nat} (h1 : w.heap[a]? = some (.cells c1 e1 z1)) (h2 : w.heap[b]? = some (.cells c2 e2 z2)) (he : e1 ≠ e2) : a ≠ b := by
  intro e; subst e
  rw [h1] at h2
  simp only [Option.some.injEq, Obj.cells.injEq] at h2
  exact he h2.2.1
theorem own_typ {α : Type} {E : Enc α} {w : World} {B : Nat} {e : TypeId} {v : Value} {L : List α} (h : OwnL E w B e v L) {x : Nat} (hx : v.ownBlock = some x) : ∃ c, w.heap[x]? = some (.cells c e (0, 0)) := by
  rcases h.2 with ⟨rfl, _⟩ | ⟨g, cap, cur, rfl, _, hg, _⟩
  · cases hx
  · simp only [Value.ownBlock, Option.some.injEq] at hx; subst hx; exact ⟨cur, hg⟩

section
variable {w w' : World} {B p q : Nat} {v vx : Value} {L : List Rv} {X : List Ox} {T : Int}
/-- The types of the objects' blocks. -/
def My (e : TypeId) : Prop := e = 64 ∨ e = 48 ∨ e = 53
/-- Blocks of the objects, from B on, may have changed. -/
def KB (B : Nat) (w w' : World) : Prop := Keep (fun x => B ≤ x ∧ ∃ c e z, w.heap[x]? = some (.cells c e z) ∧ My e) w w'
theorem KB.of {B : Nat} {w w' : World} (k : Keep (fun _ => False) w w') : KB B w w' := k.mono fun _ _ h => h.elim
theorem KB.trans {B : Nat} {a b c : World} (h : KB B a b) (k : KB B b c) : KB B a c :=
  ⟨Keep.os k |>.trans (Keep.os h), (Keep.tape k).trans (Keep.tape h), (Keep.output k).trans (Keep.output h), Nat.le_trans (Keep.size h) (Keep.size k), fun i hi hs => by
    have h1 := Keep.block h i hi hs
    rw [← h1]
    exact Keep.block k i (Nat.lt_of_lt_of_le hi (Keep.size h)) (fun hx => hs (by rw [h1] at hx; exact hx))⟩
theorem KB.fresh {w0 w w' : World} (h0 : Keep (fun _ => False) w0 w) (h : KB w0.heap.size w w') : Keep (fun _ => False) w0 w' :=
  ⟨(Keep.os h).trans h0.os, (Keep.tape h).trans h0.tape, (Keep.output h).trans h0.output, Nat.le_trans h0.size (Keep.size h), fun i hi hs =>
    (Keep.block h i (Nat.lt_of_lt_of_le hi h0.size) (fun hx => by have := hx.1; omega)).trans (h0.block i hi hs)⟩
theorem KB.other {B : Nat} {w w' : World} (h : KB B w w') {b : Nat} {c : Array Value} {e : TypeId} {z : Nat × Nat} (hb : w.heap[b]? = some (.cells c e z)) (he : ¬ My e) : w'.heap[b]? = some (.cells c e z) :=
  (Keep.block h b (block_lt hb) (fun ⟨_, c2, e2, z2, h2, h3⟩ => by
    rw [hb] at h2
    simp only [Option.some.injEq, Obj.cells.injEq] at h2
    exact he (h2.2.1 ▸ h3))).trans hb
theorem KB.size {B : Nat} {w w' : World} (h : KB B w w') : w.heap.size ≤ w'.heap.size := Keep.size h
theorem KB.own {α : Type} {E : Enc α} {B C : Nat} {e : TypeId} {v : Value} {M : List α} (k : KB B w w') (h : OwnL E w C e v M) (he : ¬ My e) : OwnL E w' C e v M := by
  refine Keep.own k h ?_
  rintro x hx ⟨_, c2, e2, z2, h2, h3⟩
  obtain ⟨c, hc⟩ := own_typ h hx
  rw [hc] at h2
  simp only [Option.some.injEq, Obj.cells.injEq] at h2
  exact he (h2.2.1 ▸ h3)
theorem RepR.ge (h : RepR w B p v L) (hp : B ≤ p) {w' : World} (k : Keep (fun y => y = p) w w') : KB B w w' :=
  k.mono fun x _ hx => by subst hx; exact ⟨hp, _, _, _, h.hp, .inl rfl⟩
theorem RepX.ge (h : RepX w B q vx X T) (hq : B ≤ q) {w' : World} (k : Keep (fun y => y = q ∨ vx.ownBlock = some y) w w') : KB B w w' :=
  k.mono fun x _ hx => by
    rcases hx with rfl | hx
    · exact ⟨hq, _, _, _, h.hp, .inr (.inl rfl)⟩
    · obtain ⟨c, hc⟩ := own_typ h.hv hx
      exact ⟨(h.hv.lt x hx).1, _, _, _, hc, .inr (.inr rfl)⟩
/-- A call of the program leaves the reference alone. -/
theorem RepX.past (hX : RepX w B q vx X T) (hC : RepR w B p v L) (k : Keep (fun y => y = p) w w') : RepX w' B q vx X T := by
  refine hX.keep k ?_ ?_ ?_
  · exact typ_ne hX.hp hC.hp (by decide)
  · intro x hx
    obtain ⟨c, hc⟩ := own_typ hX.hv hx
    exact typ_ne hc hC.hp (by decide)
  · intro x hx
    obtain ⟨c, hc⟩ := own_typ (hX.hb x hx) (x := x.g) rfl
    exact typ_ne hc hC.hp (by decide)
/-- .. and the other way. -/
theorem RepR.past (hC : RepR w B p v L) (hX : RepX w B q vx X T) (k : Keep (fun y => y = q ∨ vx.ownBlock = some y) w w') : RepR w' B p v L := by
  refine hC.keep k ?_ ?_
  · rintro (e | e)
    · exact typ_ne hC.hp hX.hp (by decide) e
    · obtain ⟨c, hc⟩ := own_typ hX.hv e
      exact typ_ne hC.hp hc (by decide) rfl
  · intro x hx
    obtain ⟨c, hc⟩ := own_typ hC.hv hx
    rintro (e | e)
    · exact typ_ne hc hX.hp (by decide) e
    · obtain ⟨c2, hc2⟩ := own_typ hX.hv e
      exact typ_ne hc hc2 (by decide) rfl
end

/-- The program's object at p and the reference's at q say the same, behind at most n calls. -/
structure TwoV (w : World) (B p q n : Nat) (v vx : Value) (L : List Rv) (X : List Ox) (T : Int) : Prop where
  rc : RepR w B p v L
  rx : RepX w B q vx X T
  iv : Inv L X T
  ll : L.length ≤ n
  lt : T ≤ n
  bp : B ≤ p
  bq : B ≤ q
def Two (w : World) (B p q n : Nat) : Prop := ∃ v vx L X T, TwoV w B p q n v vx L X T

section
variable {w w' : World} {B p q n m : Nat} {v vx : Value} {L : List Rv} {X : List Ox} {T : Int}
theorem TwoV.keep0 (h : TwoV w B p q n v vx L X T) (k : Keep (fun _ => False) w w') : TwoV w' B p q n v vx L X T :=
  ⟨h.rc.keep0 k, h.rx.keep0 k, h.iv, h.ll, h.lt, h.bp, h.bq⟩
theorem TwoV.up (h : TwoV w B p q n v vx L X T) (k : n ≤ m) : TwoV w B p q m v vx L X T :=
  ⟨h.rc, h.rx, h.iv, by have := h.ll; omega, by have := h.lt; omega, h.bp, h.bq⟩
theorem Two.keep0 (h : Two w B p q n) (k : Keep (fun _ => False) w w') : Two w' B p q n := by
  obtain ⟨v, vx, L, X, T, h⟩ := h
  exact ⟨v, vx, L, X, T, h.keep0 k⟩
theorem Two.up (h : Two w B p q n) (k : n ≤ m) : Two w B p q m := by
  obtain ⟨v, vx, L, X, T, h⟩ := h
  exact ⟨v, vx, L, X, T, h.up k⟩
end

/-- What then is true in every world that has only grown. -/
def Nx (C : World → Prop) (w : World) : Prop := ∀ w', Keep (fun _ => False) w w' → C w'

section
variable {w : World} {B p q n : Nat}

theorem make_pair (h : Two w B p q n) (hn : n < 100) (s y f : Int) (hB : B ≤ w.heap.size) : ∃ E : Int,
    Calls Try.prog 13 #[.pointer (some ⟨p, 0, none⟩), .int .i64 s, .int .i64 y, .int .i64 f] w fun e w1 => e = .returned (.int .i64 E) ∧ KB B w w1 ∧
      Nx (fun w1' => Calls Try.prog 36 #[.pointer (some ⟨q, 0, none⟩), .int .i64 s, .int .i64 y, .int .i64 f] w1' fun e w2 => e = .returned (.int .i64 E) ∧ KB B w1' w2 ∧ Two w2 B p q (n + 1)) w1 := by
  by_cases hr : mkOk s y f
  · by_cases h8 : y % 8 = 0 ∧ f % 8 = 0
    · obtain ⟨v, vx, L, X, T, h⟩ := h
      have hll := h.ll
      have hlt := h.lt
      have hxl := h.iv.len
      obtain ⟨r1, r2, r3, r4, r5⟩ := id hr
      have hy8 : y / 8 * 8 = y := by omega
      have hex : (owF L f).isSome = true ∨ 0 ≤ whI L s y → 0 ≤ atX X s y ∨ 0 ≤ ofX X f → ∃ E : Int,
          Calls Try.prog 13 #[.pointer (some ⟨p, 0, none⟩), .int .i64 s, .int .i64 y, .int .i64 f] w fun e w1 => e = .returned (.int .i64 E) ∧ KB B w w1 ∧
            Nx (fun w1' => Calls Try.prog 36 #[.pointer (some ⟨q, 0, none⟩), .int .i64 s, .int .i64 y, .int .i64 f] w1' fun e w2 => e = .returned (.int .i64 E) ∧ KB B w1' w2 ∧ Two w2 B p q (n + 1)) w1 := by
        intro a1 a2
        refine ⟨7, (make_exist B p v L s y f hr h8 a1 w h.rc).mono ?_⟩
        rintro e w1 ⟨rfl, hk1⟩
        refine ⟨rfl, KB.of hk1, fun w1' k1 => (makeX_exist B q vx X T s y f hr h8 a2 w1' ((h.rx.keep0 hk1).keep0 k1)).mono ?_⟩
        rintro e w2 ⟨rfl, rfl⟩
        exact ⟨rfl, KB.of (Keep.refl _ _), v, vx, L, X, T, ((h.keep0 hk1).keep0 k1).up (by omega)⟩
      rcases h.iv.owner f h8.2 with ⟨o1, o2, o3⟩ | ⟨o1, o2⟩
      · rcases h.iv.find s y with ⟨f1, f2⟩ | ⟨k, i, j, f1, f2, _⟩
        · rw [hy8] at f1
          refine ⟨0, (make_ok B p v L s y f hr h8 o1 f1 (by omega) w hB h.rc).mono ?_⟩
          rintro e w1 ⟨v', rfl, hC, hk, hv⟩
          refine ⟨rfl, h.rc.ge h.bp hk, fun w1' k => ?_⟩
          have hX := (h.rx.past h.rc hk).keep0 k
          have hC' := hC.keep0 k
          refine (makeX_any B q vx X T s y f hr h8 f2 o2 w1' (by have := hk.size; have := k.size; omega) (by omega) (by omega) hX).mono ?_
          rintro e w2 ⟨rfl, vx', X', g1, hP, hX2, hk2, hv2⟩
          have hk2' : Keep (fun z => z = q ∨ vx.ownBlock = some z) w1' w2 := hk2.mono fun _ _ h => .inl h
          exact ⟨rfl, hX.ge h.bq hk2', v', vx', _, _, _, hC'.past hX hk2', hX2, h.iv.made ⟨r1, r2, by omega, h8.1, r4, r5, h8.2⟩ f1 o3 hP, by simp; omega, by omega, h.bp, h.bq⟩
        · exact hex (.inr (by rw [hy8] at f1; omega)) (.inl (by omega))
      · exact hex (.inl o1) (.inr o2)
    · refine ⟨4, (make_align p s y f hr (by omega) w).mono ?_⟩
      rintro e w1 ⟨rfl, rfl⟩
      refine ⟨rfl, KB.of (Keep.refl _ _), fun w1' k => (makeX_align q s y f hr (by omega) w1').mono ?_⟩
      rintro e w2 ⟨rfl, rfl⟩
      exact ⟨rfl, KB.of (Keep.refl _ _), (h.keep0 k).up (by omega)⟩
  · refine ⟨3, (make_range p s y f hr w).mono ?_⟩
    rintro e w1 ⟨rfl, rfl⟩
    refine ⟨rfl, KB.of (Keep.refl _ _), fun w1' k => (makeX_range q s y f hr w1').mono ?_⟩
    rintro e w2 ⟨rfl, rfl⟩
    exact ⟨rfl, KB.of (Keep.refl _ _), (h.keep0 k).up (by omega)⟩

theorem or_lt8 {b j : Nat} (hb : b < 256) (hj : j < 8) : b ||| 2 ^ j < 256 := Nat.or_lt_two_pow (n := 8) hb (Nat.pow_lt_pow_right (by decide) hj)
theorem and_lt8 {b : Nat} (hb : b < 256) (c : Nat) : b &&& c < 256 := Nat.lt_of_le_of_lt Nat.and_le_left hb

theorem fill_pair (h : Two w B p q n) (hn : n < 100) (s y : Int) (hy : i64R y) (hB : B ≤ w.heap.size) : ∃ V E : Int,
    Calls Try.prog 14 #[.pointer (some ⟨p, 0, none⟩), .int .i64 s, .int .i64 y] w fun e w1 => e = .returned (.tuple #[.int .i64 V, .int .i64 E]) ∧ KB B w w1 ∧
      Nx (fun w1' => Calls Try.prog 37 #[.pointer (some ⟨q, 0, none⟩), .int .i64 s, .int .i64 y] w1' fun e w2 => e = .returned (.tuple #[.int .i64 V, .int .i64 E]) ∧ KB B w1' w2 ∧ Two w2 B p q (n + 1)) w1 := by
  obtain ⟨v, vx, L, X, T, h⟩ := h
  have hll := h.ll
  have hlt := h.lt
  rcases h.iv.find s y with ⟨h1, h2⟩ | ⟨k, i, j, h1, h2, hk, hi, he, hs, hp, hyj, hj, hym, hok, hb⟩
  · refine ⟨0, 6, (fillL_none B p v L s y hy h1 w h.rc).mono ?_⟩
    rintro e w1 ⟨rfl, hk1⟩
    refine ⟨rfl, KB.of hk1, fun w1' k1 => (fillX_none B q vx X T s y w1' ((h.rx.keep0 hk1).keep0 k1) h2).mono ?_⟩
    rintro e w2 ⟨rfl, rfl⟩
    exact ⟨rfl, KB.of (Keep.refl _ _), v, vx, L, X, T, ((h.keep0 hk1).keep0 k1).up (by omega)⟩
  · have eb : L[k].b = X[i].b := by rw [← he]; rfl
    have es : L[k].s = X[i].s := by rw [← he]; rfl
    have ep : L[k].p = X[i].p := by rw [← he]; rfl
    have ef : L[k].f = X[i].f := by rw [← he]; rfl
    have hlink := bl_bit ⟨X[i].b, hb⟩ ⟨j, hj⟩
    simp only at hlink
    obtain ⟨_, k0, k1', k8, f0, f1, f8⟩ := id hok
    by_cases hbit : X[i].b &&& 2 ^ j = 0
    · have hl2 : (X[i].b / 2 ^ j % 2 == 1) = false := by rw [hlink]; simpa using hbit
      have hor := bl_or ⟨X[i].b, hb⟩ ⟨j, hj⟩
      simp only at hor
      refine ⟨L[k].f + y - L[k].p, 0, (fillL_new B p k j v L L[k] s y hy h1 hk rfl hym (by omega) ⟨by omega, by omega, by omega, by omega, by omega, by omega⟩ w hB h.rc (by rw [eb]; exact hbit)).mono ?_⟩
      rintro e w1 ⟨v', rfl, hC, hk1, hv1⟩
      refine ⟨rfl, h.rc.ge h.bp hk1, fun w1' kk => ?_⟩
      have hX := (h.rx.past h.rc hk1).keep0 kk
      have hC' := hC.keep0 kk
      refine (fillX_new B q i vx X T s y X[i] j (X[i].b ||| 2 ^ j) w1' (by have := hk1.size; have := kk.size; omega) hX h2 hi rfl hyj hj hl2 hor (or_lt8 hb hj) (by omega)).mono ?_
      rintro e w2 ⟨rfl, g1, c1, hX2, hk2, hg2⟩
      have hI := h.iv.set hk hi he (b' := X[i].b ||| 2 ^ j) (g := g1) (c := c1) (or_lt8 hb hj)
      rw [es, ep, ef, eb] at hC'
      refine ⟨by rw [ep, ef], hX.ge h.bq hk2, v', vx, _, _, _, hC'.past hX hk2, hX2, hI, ?_, by omega, h.bp, h.bq⟩
      rw [List.length_append, rmv_length hk]; simp; omega
    · have hl2 : (X[i].b / 2 ^ j % 2 == 1) = true := by rw [hlink]; simpa using hbit
      refine ⟨0, 7, (fillL_dup B p k j v L L[k] s y hy h1 hk rfl hym (by omega) w h.rc (by rw [eb]; exact hbit)).mono ?_⟩
      rintro e w1 ⟨rfl, hk1⟩
      refine ⟨rfl, KB.of hk1, fun w1' kk => (fillX_dup B q i vx X T s y X[i] j w1' ((h.rx.keep0 hk1).keep0 kk) h2 hi rfl hyj hj hl2).mono ?_⟩
      rintro e w2 ⟨rfl, hk2⟩
      exact ⟨rfl, KB.of hk2, v, vx, L, X, T, (((h.keep0 hk1).keep0 kk).keep0 hk2).up (by omega)⟩

theorem clear_pair (h : Two w B p q n) (hn : n < 100) (s y : Int) (hy : i64R y) (hB : B ≤ w.heap.size) : ∃ E : Int,
    Calls Try.prog 15 #[.pointer (some ⟨p, 0, none⟩), .int .i64 s, .int .i64 y] w fun e w1 => e = .returned (.int .i64 E) ∧ KB B w w1 ∧
      Nx (fun w1' => Calls Try.prog 38 #[.pointer (some ⟨q, 0, none⟩), .int .i64 s, .int .i64 y] w1' fun e w2 => e = .returned (.int .i64 E) ∧ KB B w1' w2 ∧ Two w2 B p q (n + 1)) w1 := by
  obtain ⟨v, vx, L, X, T, h⟩ := h
  have hll := h.ll
  have hlt := h.lt
  rcases h.iv.find s y with ⟨h1, h2⟩ | ⟨k, i, j, h1, h2, hk, hi, he, hs, hp, hyj, hj, hym, hok, hb⟩
  · refine ⟨6, (clearL_none B p v L s y hy h1 w h.rc).mono ?_⟩
    rintro e w1 ⟨rfl, hk1⟩
    refine ⟨rfl, KB.of hk1, fun w1' k1 => (clearX_none B q vx X T s y w1' ((h.rx.keep0 hk1).keep0 k1) h2).mono ?_⟩
    rintro e w2 ⟨rfl, hk2⟩
    exact ⟨rfl, KB.of hk2, v, vx, L, X, T, (((h.keep0 hk1).keep0 k1).keep0 hk2).up (by omega)⟩
  · have eb : L[k].b = X[i].b := by rw [← he]; rfl
    have es : L[k].s = X[i].s := by rw [← he]; rfl
    have ep : L[k].p = X[i].p := by rw [← he]; rfl
    have ef : L[k].f = X[i].f := by rw [← he]; rfl
    have hlink := bl_bit ⟨X[i].b, hb⟩ ⟨j, hj⟩
    simp only at hlink
    by_cases hbit : X[i].b &&& 2 ^ j = 0
    · have hl2 : (X[i].b / 2 ^ j % 2 == 1) = false := by rw [hlink]; simpa using hbit
      refine ⟨6, (clearL_no B p k j v L L[k] s y hy h1 hk rfl hym (by omega) w h.rc (by rw [eb]; exact hbit)).mono ?_⟩
      rintro e w1 ⟨rfl, hk1⟩
      refine ⟨rfl, KB.of hk1, fun w1' kk => (clearX_no B q i vx X T s y X[i] j w1' ((h.rx.keep0 hk1).keep0 kk) h2 hi rfl hyj hj hl2).mono ?_⟩
      rintro e w2 ⟨rfl, hk2⟩
      exact ⟨rfl, KB.of hk2, v, vx, L, X, T, (((h.keep0 hk1).keep0 kk).keep0 hk2).up (by omega)⟩
    · have hl2 : (X[i].b / 2 ^ j % 2 == 1) = true := by rw [hlink]; simpa using hbit
      have hand := bl_and ⟨X[i].b, hb⟩ ⟨j, hj⟩
      simp only at hand
      refine ⟨0, (clearL_yes B p k j v L L[k] s y hy h1 hk rfl hym (by omega) w hB h.rc (by rw [eb]; exact hbit)).mono ?_⟩
      rintro e w1 ⟨v', rfl, hC, hk1, hv1⟩
      refine ⟨rfl, h.rc.ge h.bp hk1, fun w1' kk => ?_⟩
      have hX := (h.rx.past h.rc hk1).keep0 kk
      have hC' := hC.keep0 kk
      refine (clearX_yes B q i vx X T s y X[i] j (X[i].b &&& (255 - 2 ^ j)) w1' (by have := hk1.size; have := kk.size; omega) hX h2 hi rfl hyj hj hl2 hand (and_lt8 hb _) (by omega)).mono ?_
      rintro e w2 ⟨rfl, g1, c1, hX2, hk2, hg2⟩
      have hI := h.iv.set hk hi he (b' := X[i].b &&& (255 - 2 ^ j)) (g := g1) (c := c1) (and_lt8 hb _)
      rw [es, ep, ef, eb] at hC'
      refine ⟨rfl, hX.ge h.bq hk2, v', vx, _, _, _, hC'.past hX hk2, hX2, hI, ?_, by omega, h.bp, h.bq⟩
      rw [List.length_append, rmv_length hk]; simp; omega

theorem break_pair (h : Two w B p q n) (hn : n < 100) (s y : Int) (hy : i64R y) (hB : B ≤ w.heap.size) : ∃ (M : List Int) (E : Int), M.length ≤ 8 ∧
    Calls Try.prog 16 #[.pointer (some ⟨p, 0, none⟩), .int .i64 s, .int .i64 y] w fun e w1 => ∃ u, e = .returned (.tuple #[u, .int .i64 E]) ∧ OwnL inE w1 w.heap.size 3 u M ∧ KB B w w1 ∧
      Nx (fun w1' => Calls Try.prog 20 #[.pointer (some ⟨q, 0, none⟩), .int .i64 s, .int .i64 y] w1' fun e w2 => ∃ u', e = .returned (.tuple #[u', .int .i64 E]) ∧ OwnL inE w2 w.heap.size 3 u' M ∧ OwnL inE w2 w.heap.size 3 u M ∧ KB B w1' w2 ∧ Two w2 B p q (n + 1)) w1 := by
  obtain ⟨v, vx, L, X, T, h⟩ := h
  have hll := h.ll
  have hlt := h.lt
  rcases h.iv.find s y with ⟨h1, h2⟩ | ⟨k, i, j, h1, h2, hk, hi, he, hs, hp, hyj, hj, hym, hok, hb⟩
  · refine ⟨[], 6, by simp, (breakL_none B p v L s y hy h1 w h.rc).mono ?_⟩
    rintro e w1 ⟨rfl, hk1⟩
    refine ⟨_, rfl, OwnL.nil _ _ _, KB.of hk1, fun w1' k1 => (breakX_none B q vx X T s y w1' ((h.rx.keep0 hk1).keep0 k1) h2).mono ?_⟩
    rintro e w2 ⟨rfl, rfl⟩
    exact ⟨_, rfl, OwnL.nil _ _ _, OwnL.nil _ _ _, KB.of (Keep.refl _ _), v, vx, L, X, T, ((h.keep0 hk1).keep0 k1).up (by omega)⟩
  · have eb : L[k].b = X[i].b := by rw [← he]; rfl
    have ef : L[k].f = X[i].f := by rw [← he]; rfl
    obtain ⟨_, k0, k1', k8, f0, f1, f8⟩ := id hok
    refine ⟨opN L[k].f L[k].b 8, 0, opN_len _ _ _, (breakL_yes B p k v L L[k] s y hy h1 hk rfl (by omega) (by omega) w hB h.rc).mono ?_⟩
    rintro e w1 ⟨v', u, rfl, hC, hO, hk1, hv1⟩
    refine ⟨u, rfl, hO, h.rc.ge h.bp hk1, fun w1' kk => ?_⟩
    have hX := (h.rx.past h.rc hk1).keep0 kk
    have hC' := hC.keep0 kk
    refine (breakX_yes B q i vx X T s y X[i] w1' (by have := hk1.size; have := kk.size; omega) hX h2 hi rfl).mono ?_
    rintro e w2 ⟨u', vx', rfl, hX2, hO2, hk2, hv2⟩
    have hk2' : Keep (fun y => y = q ∨ vx.ownBlock = some y) w1' w2 := hk2.mono fun _ _ h => .inl h
    have hM : opX X[i] = opN L[k].f L[k].b 8 := by unfold opX; rw [ef, eb]
    rw [hM] at hO2
    refine ⟨u', rfl, hO2.base (fun z hz => by have := (hO2.lt z hz).1; have := hk1.size; have := kk.size; omega), ?_, hX.ge h.bq hk2', v', vx', _, _, _, hC'.past hX hk2', hX2, h.iv.drop hk hi he, by rw [rmv_length hk]; omega, by omega, h.bp, h.bq⟩
    exact (hO.keep kk (fun _ _ => id)).keep hk2 (fun z hz e => by have := (hO.lt z hz).1; have := block_lt h.rx.hp; omega)
end

end Go.Proofs.Ytmbgebmhdofdaaa
