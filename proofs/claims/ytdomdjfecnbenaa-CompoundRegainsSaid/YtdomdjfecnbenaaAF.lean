/- Compounds: both, through one call. -/
import Derived.Test.YtdomdjfecnbenaaAE
import Derived.Test.YtdomdjfecnbenaaU
import Derived.Test.YtdomdjfecnbenaaP
import Derived.Test.YtdomdjfecnbenaaR
set_option linter.unusedVariables false
set_option linter.unusedSimpArgs false
namespace Go.Proofs.Ytdomdjfecnbenaa
open Go.RowKit Go.Own

theorem typ_ne {w : World} {a b : Nat} {c1 c2 : Array Value} {e1 e2 : TypeId} {z1 z2 : Nat × Nat} (h1 : w.heap[a]? = some (.cells c1 e1 z1)) (h2 : w.heap[b]? = some (.cells c2 e2 z2)) (he : e1 ≠ e2) : a ≠ b := by
  intro e; subst e
  rw [h1] at h2
  simp only [Option.some.injEq, Obj.cells.injEq] at h2
  exact he h2.2.1
theorem own_typ {α : Type} {E : Enc α} {w : World} {B : Nat} {e : TypeId} {v : Value} {L : List α} (h : OwnL E w B e v L) {x : Nat} (hx : v.ownBlock = some x) : ∃ c, w.heap[x]? = some (.cells c e (0, 0)) := by
  rcases h.2 with ⟨rfl, _⟩ | ⟨g, cap, cur, rfl, _, hg, _⟩
  · cases hx
  · simp only [Value.ownBlock, Option.some.injEq] at hx; subst hx; exact ⟨cur, hg⟩

section
variable {w w' : World} {B p q : Nat} {v u vx : Value} {L : List Cp} {Q : List Int} {X : List On} {T : Int}
/-- The types of the objects' blocks. -/
def My (e : TypeId) : Prop := e = 61 ∨ e = 39 ∨ e = 43 ∨ e = 51
/-- Blocks of the objects, from B on, may have changed. -/
def KB (B : Nat) (w w' : World) : Prop := Keep (fun x => B ≤ x ∧ ∃ c e z, w.heap[x]? = some (.cells c e z) ∧ My e) w w'
theorem KB.of {B : Nat} {w w' : World} (k : Keep (fun _ => False) w w') : KB B w w' := k.mono fun _ _ h => h.elim
theorem KB.trans {B : Nat} {a b c : World} (h : KB B a b) (k : KB B b c) : KB B a c :=
  ⟨Keep.os k |>.trans (Keep.os h), (Keep.tape k).trans (Keep.tape h), (Keep.output k).trans (Keep.output h), Nat.le_trans (Keep.size h) (Keep.size k), fun i hi hs => by
    have h1 := Keep.block h i hi hs
    rw [← h1]
    exact Keep.block k i (Nat.lt_of_lt_of_le hi (Keep.size h)) (fun hx => hs (by rw [h1] at hx; exact hx))⟩
theorem KB.fresh {w0 w w' : World} (h0 : Keep (fun _ => False) w0 w) (h : KB w0.heap.size w w') : Keep (fun _ => False) w0 w' :=
  ⟨(Keep.os h).trans h0.os, (Keep.tape h).trans h0.tape, (Keep.output h).trans h0.output, Nat.le_trans h0.size (Keep.size h), fun i hi hs =>
    (Keep.block h i (Nat.lt_of_lt_of_le hi h0.size) (fun hx => by have := hx.1; omega)).trans (h0.block i hi hs)⟩
theorem KB.other {B : Nat} {w w' : World} (h : KB B w w') {b : Nat} {c : Array Value} {e : TypeId} {z : Nat × Nat} (hb : w.heap[b]? = some (.cells c e z)) (he : ¬ My e) : w'.heap[b]? = some (.cells c e z) :=
  (Keep.block h b (block_lt hb) (fun ⟨_, c2, e2, z2, h2, h3⟩ => by
    rw [hb] at h2
    simp only [Option.some.injEq, Obj.cells.injEq] at h2
    exact he (h2.2.1 ▸ h3))).trans hb
theorem KB.size {B : Nat} {w w' : World} (h : KB B w w') : w.heap.size ≤ w'.heap.size := Keep.size h
theorem RepC.ge (h : RepC w B p v u L Q) (hp : B ≤ p) {w' : World} (k : Keep (fun y => y = p ∨ v.ownBlock = some y) w w') : KB B w w' :=
  k.mono fun x _ hx => by
    rcases hx with rfl | hx
    · exact ⟨hp, _, _, _, h.hp, .inl rfl⟩
    · obtain ⟨c, hc⟩ := own_typ h.hv hx
      exact ⟨(h.hv.lt x hx).1, _, _, _, hc, .inr (.inl rfl)⟩
theorem RepX.ge (h : RepX w B q vx X T) (hq : B ≤ q) {w' : World} (k : Keep (fun y => y = q ∨ vx.ownBlock = some y) w w') : KB B w w' :=
  k.mono fun x _ hx => by
    rcases hx with rfl | hx
    · exact ⟨hq, _, _, _, h.hp, .inr (.inr (.inl rfl))⟩
    · obtain ⟨c, hc⟩ := own_typ h.hv hx
      exact ⟨(h.hv.lt x hx).1, _, _, _, hc, .inr (.inr (.inr rfl))⟩
/-- A call of the program leaves the reference alone. -/
theorem RepX.past (hX : RepX w B q vx X T) (hC : RepC w B p v u L Q) (k : Keep (fun y => y = p ∨ v.ownBlock = some y) w w') : RepX w' B q vx X T := by
  refine hX.keep k ?_ ?_ ?_
  · rintro (e | e)
    · exact typ_ne hX.hp hC.hp (by decide) e
    · obtain ⟨c, hc⟩ := own_typ hC.hv e
      exact typ_ne hX.hp hc (by decide) rfl
  · intro x hx
    obtain ⟨c, hc⟩ := own_typ hX.hv hx
    rintro (e | e)
    · exact typ_ne hc hC.hp (by decide) e
    · obtain ⟨c2, hc2⟩ := own_typ hC.hv e
      exact typ_ne hc hc2 (by decide) rfl
  · intro x hx
    obtain ⟨c, hc⟩ := own_typ (hX.hb x hx) (x := x.g) rfl
    rintro (e | e)
    · exact typ_ne hc hC.hp (by decide) e
    · obtain ⟨c2, hc2⟩ := own_typ hC.hv e
      exact typ_ne hc hc2 (by decide) rfl
/-- .. and the other way. -/
theorem RepC.past (hC : RepC w B p v u L Q) (hX : RepX w B q vx X T) (k : Keep (fun y => y = q ∨ vx.ownBlock = some y) w w') : RepC w' B p v u L Q := by
  refine hC.keep k ?_ ?_ ?_
  · rintro (e | e)
    · exact typ_ne hC.hp hX.hp (by decide) e
    · obtain ⟨c, hc⟩ := own_typ hX.hv e
      exact typ_ne hC.hp hc (by decide) rfl
  · intro x hx
    obtain ⟨c, hc⟩ := own_typ hC.hv hx
    rintro (e | e)
    · exact typ_ne hc hX.hp (by decide) e
    · obtain ⟨c2, hc2⟩ := own_typ hX.hv e
      exact typ_ne hc hc2 (by decide) rfl
  · intro x hx
    obtain ⟨c, hc⟩ := own_typ hC.hu hx
    rintro (e | e)
    · exact typ_ne hc hX.hp (by decide) e
    · obtain ⟨c2, hc2⟩ := own_typ hX.hv e
      exact typ_ne hc hc2 (by decide) rfl
end

/-- The program's object at p and the reference's at q say the same, behind at most n calls. -/
structure TwoV (w : World) (B p q n : Nat) (v u vx : Value) (L : List Cp) (Q : List Int) (X : List On) (T : Int) : Prop where
  rc : RepC w B p v u L Q
  rx : RepX w B q vx X T
  iv : Inv L Q X T
  ll : L.length ≤ n
  lq : Q.length ≤ n
  lt : T ≤ n
  bp : B ≤ p
  bq : B ≤ q
def Two (w : World) (B p q n : Nat) : Prop := ∃ v u vx L Q X T, TwoV w B p q n v u vx L Q X T

theorem TwoV.keep0 {w w' : World} {B p q n : Nat} {v u vx : Value} {L : List Cp} {Q : List Int} {X : List On} {T : Int} (h : TwoV w B p q n v u vx L Q X T) (k : Keep (fun _ => False) w w') : TwoV w' B p q n v u vx L Q X T :=
  ⟨h.rc.keep0 k, h.rx.keep0 k, h.iv, h.ll, h.lq, h.lt, h.bp, h.bq⟩
theorem TwoV.up {w : World} {B p q n m : Nat} {v u vx : Value} {L : List Cp} {Q : List Int} {X : List On} {T : Int} (h : TwoV w B p q n v u vx L Q X T) (k : n ≤ m) : TwoV w B p q m v u vx L Q X T :=
  ⟨h.rc, h.rx, h.iv, by have := h.ll; omega, by have := h.lq; omega, by have := h.lt; omega, h.bp, h.bq⟩
theorem Two.keep0 {w w' : World} {B p q n : Nat} (h : Two w B p q n) (k : Keep (fun _ => False) w w') : Two w' B p q n := by
  obtain ⟨v, u, vx, L, Q, X, T, h⟩ := h
  exact ⟨v, u, vx, L, Q, X, T, h.keep0 k⟩
theorem Two.up {w : World} {B p q n m : Nat} (h : Two w B p q n) (k : n ≤ m) : Two w B p q m := by
  obtain ⟨v, u, vx, L, Q, X, T, h⟩ := h
  exact ⟨v, u, vx, L, Q, X, T, h.up k⟩

/-- What then is true in every world that has only grown. -/
def Nx (C : World → Prop) (w : World) : Prop := ∀ w', Keep (fun _ => False) w w' → C w'

theorem Inv.memQ {L : List Cp} {Q : List Int} {X : List On} {T : Int} (h : Inv L Q X T) {k : Nat} (hk : k < L.length) : L[k].f ∈ Q ↔ L[k].b ≠ 0 := by
  rw [h.qm]
  constructor
  · rintro ⟨c, hc, h1, h2⟩
    rw [← mem_uniq h.so hc (List.getElem_mem hk) h1]; exact h2
  · intro h2
    exact ⟨_, List.getElem_mem hk, rfl, h2⟩

theorem turnS_ok {b b' : Nat} {s T : Int} (h : (b = 0 → s = 0) ∧ (b ≠ 0 → 1 ≤ s ∧ s ≤ T)) (h01 : b = 0 → b' ≠ 0) (h0 : 0 ≤ T) : (b' = 0 → turnS b b' s T = 0) ∧ (b' ≠ 0 → 1 ≤ turnS b b' s T ∧ turnS b b' s T ≤ T + 1) := by
  unfold turnS sn2
  by_cases e : b = 0
  · rw [if_pos e]; exact ⟨fun h => absurd h (h01 e), fun _ => by omega⟩
  · rw [if_neg e]
    have := h.2 e
    by_cases e' : b' = 0
    · rw [if_pos e']; exact ⟨fun _ => rfl, fun h => absurd e' h⟩
    · rw [if_neg e']; exact ⟨fun h => absurd h e', fun _ => by omega⟩

theorem lvQ_len (Q : List Int) (f : Int) : (lvQ Q f).length ≤ Q.length := by
  unfold lvQ
  rcases ixI_cases Q f with e | ⟨m, e, hm, _⟩
  · rw [if_pos e]; exact Nat.le_refl _
  · rw [if_neg (by omega), e, Int.toNat_natCast, rmv_length hm]; omega

section
variable {w : World} {B p q n : Nat}

theorem make_pair (h : Two w B p q n) (hn : n < 100) (f : Int) (hB : B ≤ w.heap.size) : ∃ E : Int,
    Calls Try.prog 10 #[.pointer (some ⟨p, 0, none⟩), .int .i64 f] w fun e w1 => e = .returned (.int .i64 E) ∧ KB B w w1 ∧
      Nx (fun w1' => Calls Try.prog 41 #[.pointer (some ⟨q, 0, none⟩), .int .i64 f] w1' fun e w2 => e = .returned (.int .i64 E) ∧ KB B w1' w2 ∧ Two w2 B p q (n + 1)) w1 := by
  by_cases hr : f < 0 ∨ 1016 < f
  · refine ⟨3, (make_range p f hr w).mono ?_⟩
    rintro e w1 ⟨rfl, rfl⟩
    refine ⟨rfl, KB.of (Keep.refl _ _), fun w1' k => (makeX_range q f hr w1').mono ?_⟩
    rintro e w2 ⟨rfl, rfl⟩
    exact ⟨rfl, KB.of (Keep.refl _ _), (h.keep0 k).up (by omega)⟩
  · obtain ⟨x, rfl⟩ := Int.eq_ofNat_of_zero_le (show 0 ≤ f by omega)
    by_cases h8 : x / 8 * 8 = x
    · obtain ⟨v, u, vx, L, Q, X, T, h⟩ := h
      rcases h.iv.find x with ⟨h1, h2⟩ | ⟨k, i, x', e1, hx', h1, h1', h2, hk, hi, he, hf, _⟩
      · have h1' : whI L ((x / 8 * 8 : Nat) : Int) = -1 := by unfold whA at h1; rw [if_neg (by omega)] at h1; exact h1
        refine ⟨0, (make_any B p v u L Q x (by omega) h8 h1' (by have := h.ll; omega) w hB h.rc).mono ?_⟩
        rintro e w1 ⟨rfl, i, v', hP, hC, hk, hv⟩
        have hk' : Keep (fun y => y = p ∨ v.ownBlock = some y) w w1 := hk.mono fun _ _ h => .inl h
        refine ⟨rfl, h.rc.ge h.bp hk', fun w1' k => ?_⟩
        have hX := (h.rx.past h.rc hk').keep0 k
        have hC' := hC.keep0 k
        refine (makeX_any B q vx X T x (by omega) (by omega) (by omega) w1' (by have := hk.size; have := k.size; omega) ?_ hX h2).mono ?_
        · have := h.iv.pm.length_eq; rw [List.length_map] at this; have := h.ll; omega
        · rintro e w2 ⟨rfl, vx', g1, hX2, hk2, hv2⟩
          refine ⟨rfl, hX.ge h.bq hk2, v', u, vx', _, _, _, _, hC'.past hX hk2, hX2, h.iv.made (by omega) (by omega) h1 hP.le hP.lt hP.ge g1 8, ?_, by have := h.lq; omega, by have := h.lt; omega, h.bp, h.bq⟩
          rw [insAt_length L hP.le]; have := h.ll; omega
      · obtain rfl : x = x' := by omega
        refine ⟨7, (make_exist B p v u L Q x k (by omega) h8 h1 w h.rc).mono ?_⟩
        rintro e w1 ⟨rfl, hk1⟩
        refine ⟨rfl, KB.of hk1, fun w1' k1 => (makeX_exist B q vx X T x (by omega) (by omega) (by omega) w1' ((h.rx.keep0 hk1).keep0 k1) i h2).mono ?_⟩
        rintro e w2 ⟨rfl, rfl⟩
        exact ⟨rfl, KB.of (Keep.refl _ _), v, u, vx, L, Q, X, T, ((h.keep0 hk1).keep0 k1).up (by omega)⟩
    · refine ⟨4, (make_align p x (by omega) h8 w).mono ?_⟩
      rintro e w1 ⟨rfl, rfl⟩
      refine ⟨rfl, KB.of (Keep.refl _ _), fun w1' k => (makeX_align q x (by omega) (by omega) (by omega) w1').mono ?_⟩
      rintro e w2 ⟨rfl, rfl⟩
      exact ⟨rfl, KB.of (Keep.refl _ _), (h.keep0 k).up (by omega)⟩

theorem bit_link {b j : Nat} (hb : b < 256) (hj : j < 8) : (b / 2 ^ j % 2 == 1) = (b &&& 2 ^ j != 0) := bl_bit ⟨b, hb⟩ ⟨j, hj⟩

theorem lose_pair (h : Two w B p q n) (hn : n < 100) (f : Int) (hf : f < 9223372036854775808) (hB : B ≤ w.heap.size) : ∃ (P : Bool) (E : Int),
    Calls Try.prog 11 #[.pointer (some ⟨p, 0, none⟩), .int .i64 f] w fun e w1 => e = .returned (.tuple #[.bool P, .int .i64 E]) ∧ KB B w w1 ∧
      Nx (fun w1' => Calls Try.prog 42 #[.pointer (some ⟨q, 0, none⟩), .int .i64 f] w1' fun e w2 => e = .returned (.tuple #[.bool P, .int .i64 E]) ∧ KB B w1' w2 ∧ Two w2 B p q (n + 1)) w1 := by
  obtain ⟨v, u, vx, L, Q, X, T, h⟩ := h
  have hll := h.ll
  have hlq := h.lq
  have hlt := h.lt
  rcases h.iv.find f with ⟨h1, h2⟩ | ⟨k, i, x, rfl, hx, h1, h1', h2, hk, hi, he, hfd, hX1, hX2⟩
  · refine ⟨false, 6, (lose_none B p v u L Q f hf w h.rc h1).mono ?_⟩
    rintro e w1 ⟨rfl, hk1⟩
    refine ⟨rfl, KB.of hk1, fun w1' k1 => (loseX_none B q vx X T f w1' ((h.rx.keep0 hk1).keep0 k1) h2).mono ?_⟩
    rintro e w2 ⟨rfl, rfl⟩
    exact ⟨rfl, KB.of (Keep.refl _ _), v, u, vx, L, Q, X, T, ((h.keep0 hk1).keep0 k1).up (by omega)⟩
  · have hj : x % 8 < 8 := Nat.mod_lt _ (by decide)
    have eb : X[i].b = L[k].b := by rw [← he]; rfl
    have ef : X[i].f = ((x / 8 * 8 : Nat) : Int) := by rw [← hfd, ← he]; rfl
    have hxd : x = x / 8 * 8 + x % 8 := by omega
    have hb6 := h.rc.hb _ (List.getElem_mem hk)
    have hlink := bit_link hb6 hj
    by_cases hbit : L[k].b &&& 2 ^ (x % 8) = 0
    · have hbx : (X[i].b / 2 ^ (x % 8) % 2 == 1) = false := by rw [eb, hlink]; simpa using hbit
      have hT := h.iv.t0
      -- behind both
      have close : ∀ {w1 w1' w2 : World} {v' u' : Value} {L' : List Cp} {Q' : List Int} {P : Bool} (_ : RepC w1 B p v' u' L' Q') (_ : KB B w w1) (_ : Keep (fun y => y = p ∨ v.ownBlock = some y) w w1) (_ : Keep (fun _ => False) w1 w1')
          (_ : L[k].b ||| 2 ^ (x % 8) ≠ 255 → P = false ∧ L' = L.set k ⟨L[k].f, L[k].b ||| 2 ^ (x % 8)⟩ ∧ Q'.Nodup ∧ ∀ g, g ∈ Q' ↔ (g ∈ Q ∧ g ≠ L[k].f) ∨ (g = L[k].f ∧ L[k].b ||| 2 ^ (x % 8) ≠ 0))
          (_ : L[k].b ||| 2 ^ (x % 8) = 255 → P = true ∧ L' = rmv L k ∧ Q'.Nodup ∧ ∀ g, g ∈ Q' ↔ (g ∈ Q ∧ g ≠ L[k].f)) (_ : L'.length ≤ n + 1) (_ : Q'.length ≤ n + 1),
          Calls Try.prog 42 #[.pointer (some ⟨q, 0, none⟩), .int .i64 x] w1' fun e w2 => e = .returned (.tuple #[.bool P, .int .i64 0]) ∧ KB B w1' w2 ∧ Two w2 B p q (n + 1) := by
        intro w1 w1' w2 v' u' L' Q' P hC _ hk1 k1 ha hb hl' hq'
        have hX := (h.rx.past h.rc hk1).keep0 k1
        have hC' := hC.keep0 k1
        refine (loseX_yes B q i vx X T x (x / 8 * 8) (x % 8) w1' (by have := hk1.size; have := k1.size; omega) hX (by omega) h2 hi ef hxd hj hbx).mono ?_
        rintro e w2 ⟨hA, hB2⟩
        rw [eb] at hA hB2
        have hsi := h.iv.si _ (List.getElem_mem hi)
        rw [eb] at hsi
        have hnz : L[k].b ||| 2 ^ (x % 8) ≠ 0 := fun e => by
          have := pow_j hj
          have h2 : 2 ^ (x % 8) ≤ L[k].b ||| 2 ^ (x % 8) := Nat.right_le_or
          omega
        have hb256 : L[k].b ||| 2 ^ (x % 8) < 256 := Nat.or_lt_two_pow (n := 8) (by omega) (by have := pow_j hj; omega)
        by_cases h5 : L[k].b ||| 2 ^ (x % 8) = 255
        · obtain ⟨rfl, vx', hX2, hk2, hv2⟩ := hB2 h5
          obtain ⟨rfl, rfl, hqn, hqm⟩ := hb h5
          exact ⟨rfl, hX.ge h.bq hk2, v', u', vx', _, _, _, _, hC'.past hX hk2, hX2, h.iv.drop hk hi he (by omega) hqn hqm, hl', hq', by omega, h.bp, h.bq⟩
        · obtain ⟨rfl, g1, c1, hX2, hk2⟩ := hA h5
          obtain ⟨rfl, rfl, hqn, hqm⟩ := ha h5
          exact ⟨rfl, hX.ge h.bq hk2, v', u', vx, _, _, _, _, hC'.past hX hk2, hX2, h.iv.set hk hi he (by omega) (by omega) (turnS_ok hsi (fun _ => hnz) hT) hqn hqm, hl', hq', by omega, h.bp, h.bq⟩
      by_cases h0 : L[k].b = 0
      · refine ⟨false, 0, (lose_first B p v u L Q x k hx w hB h.rc h1 hk h0 (by omega)).mono ?_⟩
        rintro e w1 ⟨u', rfl, hC, hk1, -⟩
        refine ⟨rfl, h.rc.ge h.bp hk1, fun w1' k1 => close (w2 := w1) hC (h.rc.ge h.bp hk1) hk1 k1 ?_ ?_ (by rw [List.length_set]; omega) (by simp; omega)⟩
        · intro _
          have hnq : L[k].f ∉ Q := fun hm => (h.iv.memQ hk).mp hm h0
          refine ⟨rfl, by rw [h0, Nat.zero_or], ?_, fun g => ?_⟩
          · rw [List.nodup_append]
            exact ⟨h.iv.qn, by simp, fun a ha b hb => by simp at hb; subst hb; exact fun e => hnq (e ▸ ha)⟩
          · rw [List.mem_append, List.mem_singleton]
            constructor
            · rintro (hg | hg)
              · exact .inl ⟨hg, fun e => hnq (e ▸ hg)⟩
              · refine .inr ⟨hg, ?_⟩
                rw [h0, Nat.zero_or]; have := pow_j hj; omega
            · rintro (⟨hg, _⟩ | ⟨hg, _⟩)
              · exact .inl hg
              · exact .inr hg
        · intro h5
          rw [h0, Nat.zero_or] at h5
          have := pow_le8 x; omega
      · obtain hwh | hwh := Decidable.em (L[k].b ||| 2 ^ (x % 8) = 255)
        · refine ⟨true, 0, (lose_more B p v u L Q x k hx w hB h.rc h1 hk hbit h0).mono ?_⟩
          rintro e w1 ⟨v', u', L', Q', whole, rfl, hL, hC, hk1, -, -⟩
          obtain ⟨rfl, rfl, rfl⟩ := hL.a hwh
          rw [if_neg h0] at hC
          refine ⟨rfl, h.rc.ge h.bp hk1, fun w1' k1 => close (w2 := w1) hC (h.rc.ge h.bp hk1) hk1 k1 (fun h => absurd hwh h) (fun _ => ⟨rfl, rfl, nodup_lvQ h.iv.qn _, mem_lvQ h.iv.qn _⟩) (by rw [rmv_length hk]; omega) ?_⟩
          have := lvQ_len Q L[k].f; omega
        · refine ⟨false, 0, (lose_more B p v u L Q x k hx w hB h.rc h1 hk hbit h0).mono ?_⟩
          rintro e w1 ⟨v', u', L', Q', whole, rfl, hL, hC, hk1, -, -⟩
          obtain ⟨rfl, rfl, rfl⟩ := hL.b hwh
          rw [if_neg h0] at hC
          refine ⟨rfl, h.rc.ge h.bp hk1, fun w1' k1 => close (w2 := w1) hC (h.rc.ge h.bp hk1) hk1 k1 (fun _ => ⟨rfl, rfl, h.iv.qn, fun g => ?_⟩) (fun h => absurd h hwh) (by rw [List.length_set]; omega) (by omega)⟩
          have hmq := (h.iv.memQ hk).mpr h0
          constructor
          · intro hg
            by_cases e : g = L[k].f
            · refine .inr ⟨e, fun e2 => ?_⟩
              have : L[k].b ≤ L[k].b ||| 2 ^ (x % 8) := Nat.left_le_or
              omega
            · exact .inl ⟨hg, e⟩
          · rintro (⟨hg, _⟩ | ⟨rfl, _⟩)
            · exact hg
            · exact hmq
    · have hbx : (X[i].b / 2 ^ (x % 8) % 2 == 1) = true := by rw [eb, hlink]; simpa using hbit
      refine ⟨false, 7, (lose_dup B p v u L Q x k hx w h.rc h1 hk hbit).mono ?_⟩
      rintro e w1 ⟨rfl, hk1⟩
      refine ⟨rfl, KB.of hk1, fun w1' k1 => (loseX_dup B q i vx X T x (x / 8 * 8) (x % 8) w1' ((h.rx.keep0 hk1).keep0 k1) h2 hi ef hxd hj hbx).mono ?_⟩
      rintro e w2 ⟨rfl, hk2⟩
      exact ⟨rfl, KB.of hk2, v, u, vx, L, Q, X, T, (((h.keep0 hk1).keep0 k1).keep0 hk2).up (by omega)⟩

theorem regain_pair (h : Two w B p q n) (hn : n < 100) (f : Int) (hf : f < 9223372036854775808) (hB : B ≤ w.heap.size) : ∃ E : Int,
    Calls Try.prog 21 #[.pointer (some ⟨p, 0, none⟩), .int .i64 f] w fun e w1 => e = .returned (.int .i64 E) ∧ KB B w w1 ∧
      Nx (fun w1' => Calls Try.prog 43 #[.pointer (some ⟨q, 0, none⟩), .int .i64 f] w1' fun e w2 => e = .returned (.int .i64 E) ∧ KB B w1' w2 ∧ Two w2 B p q (n + 1)) w1 := by
  obtain ⟨v, u, vx, L, Q, X, T, h⟩ := h
  have hll := h.ll
  have hlq := h.lq
  have hlt := h.lt
  rcases h.iv.find f with ⟨h1, h2⟩ | ⟨k, i, x, rfl, hx, h1, h1', h2, hk, hi, he, hfd, hX1, hX2⟩
  · refine ⟨6, (regain_none B p v u L Q f hf w h.rc h1).mono ?_⟩
    rintro e w1 ⟨rfl, hk1⟩
    refine ⟨rfl, KB.of hk1, fun w1' k1 => (regainX_none B q vx X T f w1' ((h.rx.keep0 hk1).keep0 k1) h2).mono ?_⟩
    rintro e w2 ⟨rfl, rfl⟩
    exact ⟨rfl, KB.of (Keep.refl _ _), v, u, vx, L, Q, X, T, ((h.keep0 hk1).keep0 k1).up (by omega)⟩
  · have hj : x % 8 < 8 := Nat.mod_lt _ (by decide)
    have eb : X[i].b = L[k].b := by rw [← he]; rfl
    have ef : X[i].f = ((x / 8 * 8 : Nat) : Int) := by rw [← hfd, ← he]; rfl
    have hxd : x = x / 8 * 8 + x % 8 := by omega
    have hb6 := h.rc.hb _ (List.getElem_mem hk)
    have hlink := bit_link hb6 hj
    by_cases hbit : L[k].b &&& 2 ^ (x % 8) = 0
    · have hbx : (X[i].b / 2 ^ (x % 8) % 2 == 1) = false := by rw [eb, hlink]; simpa using hbit
      refine ⟨5, (regain_no B p v u L Q x k hx w h.rc h1 hk hbit).mono ?_⟩
      rintro e w1 ⟨rfl, hk1⟩
      refine ⟨rfl, KB.of hk1, fun w1' k1 => (regainX_no B q i vx X T x (x / 8 * 8) (x % 8) w1' ((h.rx.keep0 hk1).keep0 k1) h2 hi ef hxd hj hbx).mono ?_⟩
      rintro e w2 ⟨rfl, hk2⟩
      exact ⟨rfl, KB.of hk2, v, u, vx, L, Q, X, T, (((h.keep0 hk1).keep0 k1).keep0 hk2).up (by omega)⟩
    · have hbx : (X[i].b / 2 ^ (x % 8) % 2 == 1) = true := by rw [eb, hlink]; simpa using hbit
      have hT := h.iv.t0
      have h0 : L[k].b ≠ 0 := fun e => hbit (by rw [e, Nat.zero_and])
      refine ⟨0, (regain_yes B p v u L Q x k hx w hB h.rc h1 hk hbit).mono ?_⟩
      rintro e w1 ⟨rfl, u', hC, hk1, -⟩
      have hk1' : Keep (fun y => y = p ∨ v.ownBlock = some y) w w1 := hk1
      refine ⟨rfl, h.rc.ge h.bp hk1', fun w1' k1 => ?_⟩
      have hX := (h.rx.past h.rc hk1').keep0 k1
      have hC' := hC.keep0 k1
      refine (regainX_yes B q i vx X T x (x / 8 * 8) (x % 8) w1' (by have := hk1.size; have := k1.size; omega) hX (by omega) h2 hi ef hxd hj hbx (by rw [eb]; exact h0)).mono ?_
      rintro e w2 ⟨rfl, g1, c1, hX2, hk2⟩
      rw [eb] at hX2
      have hsi := h.iv.si _ (List.getElem_mem hi)
      rw [eb] at hsi
      have hble : L[k].b &&& (255 - 2 ^ (x % 8)) ≤ L[k].b := Nat.and_le_left
      have hb255 := (h.iv.fr _ (List.getElem_mem hk)).2.2.2
      have hmq := (h.iv.memQ hk).mpr h0
      have hgd : L.getD k ⟨0, 0⟩ = L[k] := by simp [hk]
      refine ⟨rfl, hX.ge h.bq hk2, v, u', vx, _, _, _, _, hC'.past hX hk2, hX2, h.iv.set hk hi he (by omega) (by omega) (turnS_ok hsi (fun e => absurd e h0) hT) ?_ ?_, by rw [List.length_set]; omega, ?_, by omega, h.bp, h.bq⟩
      · unfold rgQ
        rw [hgd]
        split
        · exact nodup_lvQ h.iv.qn _
        · exact h.iv.qn
      · intro g
        unfold rgQ
        rw [hgd]
        by_cases hz : L[k].b &&& (255 - 2 ^ (x % 8)) = 0
        · rw [if_pos hz, mem_lvQ h.iv.qn]
          exact ⟨fun h => .inl h, fun h => h.elim id (fun h => absurd hz h.2)⟩
        · rw [if_neg hz]
          constructor
          · intro hg
            by_cases e : g = L[k].f
            · exact .inr ⟨e, hz⟩
            · exact .inl ⟨hg, e⟩
          · rintro (⟨hg, _⟩ | ⟨rfl, _⟩)
            · exact hg
            · exact hmq
      · unfold rgQ
        split
        · have := lvQ_len Q (L.getD k ⟨0, 0⟩).f; omega
        · omega

theorem split_pair (h : Two w B p q n) (hn : n < 100) (f : Int) (hf : f < 9223372036854775808) (hB : B ≤ w.heap.size) : ∃ (M : List Int) (E : Int), M.length ≤ 8 ∧
    Calls Try.prog 16 #[.pointer (some ⟨p, 0, none⟩), .int .i64 f] w fun e w1 => ∃ y, e = .returned (.tuple #[y, .int .i64 E]) ∧ OwnL inE w1 w.heap.size 3 y M ∧ KB B w w1 ∧
      Nx (fun w1' => Calls Try.prog 44 #[.pointer (some ⟨q, 0, none⟩), .int .i64 f] w1' fun e w2 => ∃ y', e = .returned (.tuple #[y', .int .i64 E]) ∧ OwnL inE w2 w.heap.size 3 y' M ∧ OwnL inE w2 w.heap.size 3 y M ∧ KB B w1' w2 ∧ Two w2 B p q (n + 1)) w1 := by
  obtain ⟨v, u, vx, L, Q, X, T, h⟩ := h
  have hll := h.ll
  have hlq := h.lq
  have hlt := h.lt
  rcases h.iv.find f with ⟨h1, h2⟩ | ⟨k, i, x, rfl, hx, h1, h1', h2, hk, hi, he, hfd, hX1, hX2⟩
  · refine ⟨[], 6, by simp, (split_none B p v u L Q f hf w h.rc h1).mono ?_⟩
    rintro e w1 ⟨rfl, hk1⟩
    refine ⟨_, rfl, OwnL.nil _ _ _, KB.of hk1, fun w1' k1 => (splitX_none B q vx X T f w1' ((h.rx.keep0 hk1).keep0 k1) h2).mono ?_⟩
    rintro e w2 ⟨rfl, rfl⟩
    exact ⟨_, rfl, OwnL.nil _ _ _, OwnL.nil _ _ _, KB.of (Keep.refl _ _), v, u, vx, L, Q, X, T, ((h.keep0 hk1).keep0 k1).up (by omega)⟩
  · have eb : X[i].b = L[k].b := by rw [← he]; rfl
    have ef : X[i].f = L[k].f := by rw [← he]; rfl
    have hfr := h.iv.fr _ (List.getElem_mem hk)
    refine ⟨lostN L[k].f L[k].b 8, 0, lostN_len _ _ _, (split_yes B p v u L Q x k hx w hB h.rc h1 hk (by omega)).mono ?_⟩
    rintro e w1 ⟨v', u', y, rfl, hC, hO, hk1, -, -⟩
    have hk1' : Keep (fun y => y = p ∨ v.ownBlock = some y) w w1 := hk1.mono fun _ _ h => .inl h
    refine ⟨y, rfl, hO, h.rc.ge h.bp hk1', fun w1' k1 => ?_⟩
    have hX := (h.rx.past h.rc hk1').keep0 k1
    have hC' := hC.keep0 k1
    refine (splitX_yes B q i vx X T x w1' (by have := hk1.size; have := k1.size; omega) hX h2 hi).mono ?_
    rintro e w2 ⟨y', vx', rfl, hX2, hO2, hk2, hv2⟩
    have hk2' : Keep (fun y => y = q ∨ vx.ownBlock = some y) w1' w2 := hk2.mono fun _ _ h => .inl h
    rw [eb, ef] at hO2
    refine ⟨y', rfl, hO2.base (fun z hz => by have := (hO2.lt z hz).1; have := hk1.size; have := k1.size; omega), ?_, hX.ge h.bq hk2', v', u', vx', _, _, _, _, hC'.past hX hk2', hX2, h.iv.drop hk hi he (Int.le_refl _) (nodup_lvQ h.iv.qn _) (mem_lvQ h.iv.qn _), by rw [rmv_length hk]; omega, by have := lvQ_len Q L[k].f; omega, by omega, h.bp, h.bq⟩
    have hO1 := hO.keep k1 (fun _ _ => id)
    refine hO1.keep hk2 (fun z hz e => ?_)
    have := (hO.lt z hz).1
    have := block_lt h.rx.hp
    omega
end

end Go.Proofs.Ytdomdjfecnbenaa
