/- Gather: one object through a call; GatherOrders. -/
import Derived.Test.YtibcfglfcoljgaaX
set_option linter.unusedVariables false
set_option linter.unusedSimpArgs false
namespace Go.Proofs.Ytibcfglfcoljgaa
open Go.RowKit Go.Own

instance (x : Fl) : Decidable (fine x) := by unfold fine; infer_instance
/-- What Pages makes of the pages, and what it answers. -/
def pgG (L : List Fl) (o : Fl) : List Fl := if fine o then pgAll L o else L
def pgE (o : Fl) : Int := if fine o then 0 else 3
/-- The object at p holds L and Q. -/
def GS (w : World) (B p : Nat) (m : Int) (L : List Fl) (Q : List Bk) (r : Int) : Prop := ∃ v u, RepH w B p m v u L Q r
theorem GS.keep0 {w w' : World} {B p : Nat} {m : Int} {L : List Fl} {Q : List Bk} {r : Int} (h : GS w B p m L Q r) (k : Keep (fun _ => False) w w') : GS w' B p m L Q r := by
  obtain ⟨v, u, h⟩ := h
  exact ⟨v, u, h.keep0 k⟩
theorem GS.hp {w : World} {B p : Nat} {m : Int} {L : List Fl} {Q : List Bk} {r : Int} (h : GS w B p m L Q r) : ∃ c, w.heap[p]? = some (.cells c 59 (0, 0)) := by
  obtain ⟨v, u, h⟩ := h
  exact ⟨_, h.hp⟩
/-- A call at another object leaves it. -/
theorem GS.past {w w' : World} {B p p2 : Nat} {m : Int} {L : List Fl} {Q : List Bk} {r : Int} (h : GS w B p m L Q r) (h2 : ∃ c, w.heap[p2]? = some (.cells c 59 (0, 0))) (hne : p ≠ p2) (k : Keep (fun z => z = p2) w w') : GS w' B p m L Q r := by
  obtain ⟨v, u, h⟩ := h
  obtain ⟨c, h2⟩ := h2
  refine ⟨v, u, h.keep k hne (fun x hx e => ?_) (fun x hx e => ?_)⟩
  · obtain ⟨c1, h1⟩ := own_typ h.hv hx
    exact typ_ne h1 h2 (by decide) e
  · obtain ⟨c1, h1⟩ := own_typ h.hu hx
    exact typ_ne h1 h2 (by decide) e

theorem pages_st {w : World} {B p : Nat} {m : Int} {L : List Fl} {Q : List Bk} {r : Int} (s y n : Int) (h : GS w B p m L Q r) (hG : GoodL L) (hl : L.length ≤ 100) (hB : B ≤ w.heap.size) :
    Calls Try.prog 17 #[.pointer (some ⟨p, 0, none⟩), .int .i64 s, .int .i64 y, .int .i64 n] w fun e w' => e = .returned (.int .i64 (pgE ⟨s, y, n⟩)) ∧ GS w' B p m (pgG L ⟨s, y, n⟩) Q r ∧ Keep (fun z => z = p) w w' := by
  obtain ⟨v, u, h⟩ := h
  unfold pgE pgG
  by_cases hf : fine ⟨s, y, n⟩
  · rw [if_pos hf, if_pos hf]
    refine (pages_any B p m v u L Q r s y n hf hG.fi hl w hB h).mono ?_
    rintro e w' ⟨rfl, v', h1, h2, _⟩
    exact ⟨rfl, ⟨v', u, h1⟩, h2⟩
  · rw [if_neg hf, if_neg hf]
    refine (pages_err p s y n hf w).mono ?_
    rintro e w' ⟨rfl, h1⟩
    exact ⟨rfl, ⟨v, u, h.keep0 h1⟩, h1.mono fun _ _ h => h.elim⟩
theorem pgG_good {L : List Fl} (o : Fl) (h : GoodL L) : GoodL (pgG L o) ∧ (pgG L o).length ≤ L.length + 1 ∧ ∀ s q, cov (pgG L o) s q ↔ cov L s q ∨ (fine o ∧ inF o s q) := by
  unfold pgG
  by_cases hf : fine o
  · rw [if_pos hf]
    obtain ⟨h1, h2, h3⟩ := pgAll_good h hf
    exact ⟨h1, h2, fun s q => by rw [h3]; exact ⟨fun h => h.imp id (fun h => ⟨hf, h⟩), fun h => h.imp id (fun h => h.2)⟩⟩
  · rw [if_neg hf]
    exact ⟨h, by omega, fun s q => ⟨.inl, fun h => h.elim id (fun h => absurd h.1 hf)⟩⟩

/-- Which pages calls tell. -/
def covA (A : List Ac) (J : Nat → Nat) (i : Nat) (s q : Int) : Prop := ∃ j, j < i ∧ ∃ h : J j < A.length, fine (acF A[J j]) ∧ inF (acF A[J j]) s q
theorem covA_succ (A : List Ac) (J : Nat → Nat) (i : Nat) (hi : J i < A.length) (s q : Int) : covA A J (i + 1) s q ↔ covA A J i s q ∨ (fine (acF A[J i]) ∧ inF (acF A[J i]) s q) := by
  unfold covA
  constructor
  · rintro ⟨j, h1, h2, h3⟩
    by_cases e : j = i
    · subst e; exact .inr h3
    · exact .inl ⟨j, by omega, h2, h3⟩
  · rintro (⟨j, h1, h2, h3⟩ | h)
    · exact ⟨j, by omega, h2, h3⟩
    · exact ⟨i, by omega, hi, h⟩
theorem turn_j {n j fr : Nat} (hj : j < n) : (n - 1 - (n - 1 - j + fr) % n + fr) % n = j := by
  have h1 := Nat.div_add_mod (n - 1 - j + fr) n
  have h2 := Nat.mod_lt (n - 1 - j + fr) (show 0 < n by omega)
  generalize (n - 1 - j + fr) % n = i at h1 h2 ⊢
  generalize (n - 1 - j + fr) / n = d at h1
  have e : n - 1 - i + fr = n * d + j := by
    generalize n * d = t at h1 ⊢
    omega
  rw [e, Nat.mul_add_mod, Nat.mod_eq_of_lt hj]
theorem covA_turn (A : List Ac) (n fr : Nat) (hn : n ≤ A.length) (s q : Int) : covA A (fun j => j) n s q ↔ covA A (fun j => (n - 1 - j + fr) % n) n s q := by
  unfold covA
  constructor
  · rintro ⟨j, h1, h2, h3⟩
    have e := turn_j (fr := fr) h1
    have hl := Nat.mod_lt (n - 1 - j + fr) (show 0 < n by omega)
    refine ⟨(n - 1 - j + fr) % n, hl, by simp only [e]; exact h2, ?_⟩
    simp only [e]; exact h3
  · rintro ⟨j, h1, h2, h3⟩
    have hl := Nat.mod_lt (n - 1 - j + fr) (show 0 < n by omega)
    exact ⟨(n - 1 - j + fr) % n, hl, h2, h3⟩

theorem rem_run (n3 n j : Nat) (hjn : j < n) (hj : n3 % n = j) (hb : n3 < 1000) (hn : n < 100) (W : World) : Sem.run Try.prog (binOp .rem 3 (.int .i64 (n3:Int)) (.int .i64 (n:Int))) W = Result.ok (.int .i64 (j:Int)) W := by
  have a7 : ¬ ((n : Int) = 0) := by omega
  have a8 : ¬ (n = 0) := by omega
  have a9 : wrap64 (j : Int) = (j : Int) := IntWalk.wrap64_in _ (by omega)
  have a9' : IntKind.i64.wrap (j : Int) = (j : Int) := IntWalk.i64_in _ (by omega)
  have a4 : Int.tmod (n3 : Int) (n : Int) = (j : Int) := by
    rw [Int.tmod_eq_emod_of_nonneg (by omega), ← Int.natCast_emod, hj]
  go_simp

/-- The cells of two calls. -/
abbrev C12 (b o k j : Nat) (x y : Ac) (w : World) : Prop := w.cell? ⟨b, o + k * 6, none⟩ = some (.int .i64 x.k) ∧ w.cell? ⟨b, o + k * 6 + 1, none⟩ = some (.int .i64 x.s) ∧ w.cell? ⟨b, o + k * 6 + 1 + 1, none⟩ = some (.int .i64 x.p) ∧ w.cell? ⟨b, o + k * 6 + 1 + 1 + 1, none⟩ = some (.int .i64 x.n) ∧ w.cell? ⟨b, o + k * 6 + 1 + 1 + 1 + 1, none⟩ = some (.int .i64 x.f) ∧ w.cell? ⟨b, o + k * 6 + 1 + 1 + 1 + 1 + 1, none⟩ = some (.int .i64 x.o) ∧ w.cell? ⟨b, o + j * 6, none⟩ = some (.int .i64 y.k) ∧ w.cell? ⟨b, o + j * 6 + 1, none⟩ = some (.int .i64 y.s) ∧ w.cell? ⟨b, o + j * 6 + 1 + 1, none⟩ = some (.int .i64 y.p) ∧ w.cell? ⟨b, o + j * 6 + 1 + 1 + 1, none⟩ = some (.int .i64 y.n) ∧ w.cell? ⟨b, o + j * 6 + 1 + 1 + 1 + 1, none⟩ = some (.int .i64 y.f) ∧ w.cell? ⟨b, o + j * 6 + 1 + 1 + 1 + 1 + 1, none⟩ = some (.int .i64 y.o)
theorem C12_keep {b o k j : Nat} {x y : Ac} {w w' : World} (h : C12 b o k j x y w) (K : Keep (fun _ => False) w w') : C12 b o k j x y w' := by
  have f : ∀ {i : Nat} {x : Value}, w.cell? ⟨b, i, none⟩ = some x → w'.cell? ⟨b, i, none⟩ = some x := fun h => (K.cell (block_lt_cell h) id).trans h
  obtain ⟨c0, c1, c2, c3, c4, c5, d0, d1, d2, d3, d4, d5⟩ := h
  exact ⟨f c0, f c1, f c2, f c3, f c4, f c5, f d0, f d1, f d2, f d3, f d4, f d5⟩

def OrI (w wr : World) (p p2 : Nat) (A : List Ac) (n fr i : Nat) : Prop := ∃ Lg Lh, GS wr w.heap.size p 9 Lg [] 0 ∧ GS wr w.heap.size p2 9 Lh [] 0 ∧ GoodL Lg ∧ GoodL Lh ∧ Lg.length ≤ i ∧ Lh.length ≤ 2 * i ∧
  (∀ s q, cov Lg s q ↔ covA A (fun j => j) i s q) ∧ (∀ s q, cov Lh s q ↔ covA A (fun j => (n - 1 - j + fr) % n) i s q) ∧ Keep (fun _ => False) w wr

end Go.Proofs.Ytibcfglfcoljgaa
