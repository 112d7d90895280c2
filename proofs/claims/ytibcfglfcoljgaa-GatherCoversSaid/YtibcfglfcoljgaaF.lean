/- Gather: the object at any values; New; the closure of Pages. -/
import Derived.Test.YtibcfglfcoljgaaB
import Derived.Test.YtibcfglfcoljgaaIns
set_option linter.unusedVariables false
set_option linter.unusedSimpArgs false
namespace Go.Proofs.Ytibcfglfcoljgaa
open Go.RowKit Go.Own

/-- The object at p: most m, the pages L, the blocks Q, the rounds. -/
structure RepH (w : World) (B p : Nat) (m : Int) (v u : Value) (L : List Fl) (Q : List Bk) (r : Int) : Prop where
  hp : w.heap[p]? = some (.cells #[.int .i64 m, v, u, .int .i64 r] 59 (0, 0))
  hv : OwnL flE w B 40 v L
  hu : OwnL bkE w B 48 u Q
  nv : v.ownBlock ≠ some p
  nu : u.ownBlock ≠ some p
  hl : L.length ≤ 200
  hq : Q.length ≤ 200
  hr : 0 ≤ r ∧ r ≤ 1000

section
variable {w : World} {B p : Nat} {m : Int} {v u : Value} {L : List Fl} {Q : List Bk} {r : Int} (h : RepH w B p m v u L Q r)
include h
theorem RepH.cs : w.cell? ⟨p, 0, none⟩ = some (.int .i64 m) ∧ w.cell? ⟨p, 1, none⟩ = some v ∧ w.cell? ⟨p, 2, none⟩ = some u ∧ w.cell? ⟨p, 3, none⟩ = some (.int .i64 r) := by simp [cell_block h.hp]
theorem RepH.keep {S : Nat → Prop} {w' : World} (k : Keep S w w') (hp : ¬ S p) (hv : ∀ x, v.ownBlock = some x → ¬ S x) (hu : ∀ x, u.ownBlock = some x → ¬ S x) : RepH w' B p m v u L Q r :=
  ⟨(k.block p (block_lt h.hp) hp).trans h.hp, h.hv.keep k hv, h.hu.keep k hu, h.nv, h.nu, h.hl, h.hq, h.hr⟩
theorem RepH.keep0 {w' : World} (k : Keep (fun _ => False) w w') : RepH w' B p m v u L Q r := h.keep k id (fun _ _ => id) (fun _ _ => id)
end

theorem typ_ne {w : World} {a b : Nat} {c1 c2 : Array Value} {e1 e2 : TypeId} {z1 z2 : Nat × Nat} (h1 : w.heap[a]? = some (.cells c1 e1 z1)) (h2 : w.heap[b]? = some (.cells c2 e2 z2)) (he : e1 ≠ e2) : a ≠ b := by
  intro e; subst e
  rw [h1] at h2
  simp only [Option.some.injEq, Obj.cells.injEq] at h2
  exact he h2.2.1
theorem own_typ {α : Type} {E : Enc α} {w : World} {B : Nat} {e : TypeId} {v : Value} {L : List α} (h : OwnL E w B e v L) {x : Nat} (hx : v.ownBlock = some x) : ∃ c, w.heap[x]? = some (.cells c e (0, 0)) := by
  rcases h.2 with ⟨rfl, _⟩ | ⟨g, cap, cur, rfl, _, hg, _⟩
  · cases hx
  · simp only [Value.ownBlock, Option.some.injEq] at hx; subst hx; exact ⟨cur, hg⟩

set_option maxHeartbeats 400000 in
theorem new_bad (m : Int) (h : m < 1 ∨ 256 < m) (w : World) : Calls Try.prog 15 #[.int .i64 m] w fun e w' => e = .returned (.tuple #[.pointer none, .int .i64 2]) ∧ w = w' := by
  by_cases h0 : m < 1
  · go_enter Try.func15, Try.ntmps15
    go_wp2
    go_ret2
    exact ⟨rfl, rfl⟩
  · have h1 : 256 < m := by omega
    go_enter Try.func15, Try.ntmps15
    go_wp2
    go_ret2
    exact ⟨rfl, rfl⟩
set_option maxHeartbeats 400000 in
theorem new_any (m : Int) (h0 : 1 ≤ m) (h1 : m ≤ 256) (B : Nat) (w : World) (hB : B ≤ w.heap.size) : Calls Try.prog 15 #[.int .i64 m] w fun e w' => ∃ p, e = .returned (.tuple #[.pointer (some ⟨p, 0, none⟩), .int .i64 0]) ∧ RepH w' B p m (.slice none 0 0) (.slice none 0 0) [] [] 0 ∧ w.heap.size ≤ p ∧ Keep (fun _ => False) w w' := by
  go_enter Try.func15, Try.ntmps15
  go_wp2
  go_ret2
  exact ⟨w.heap.size, rfl, ⟨heap_alloc_new w _, OwnL.nil _ _ _, OwnL.nil _ _ _, by simp [Value.ownBlock], by simp [Value.ownBlock], by simp, by simp, by omega⟩, Nat.le_refl _, (Keep.refl _ _).alloc _⟩

/-- Do a stretch and the one become one? -/
def tch (o x : Fl) : Bool := decide (x.s = o.s) && decide (x.p ≤ o.p + o.n) && decide (o.p ≤ x.p + x.n)
theorem tch_iff (o x : Fl) : tch o x = true ↔ x.s = o.s ∧ x.p ≤ o.p + o.n ∧ o.p ≤ x.p + x.n := by simp [tch, and_assoc]
def fine (x : Fl) : Prop := 0 ≤ x.s ∧ 0 ≤ x.p ∧ 1 ≤ x.n ∧ x.p + x.n ≤ 4096
def mrg (o x : Fl) : Fl := ⟨o.s, min x.p o.p, max (x.p + x.n) (o.p + o.n) - min x.p o.p⟩
def pgStep (st : List Fl × Fl) (x : Fl) : List Fl × Fl := if tch st.2 x then (st.1, mrg st.2 x) else (st.1 ++ [x], st.2)
def pgTo (L : List Fl) (o : Fl) (k : Nat) : List Fl × Fl := (L.take k).foldl pgStep ([], o)
/-- The pages behind a call. -/
def pgAll (L : List Fl) (o : Fl) : List Fl := (pgTo L o L.length).1 ++ [(pgTo L o L.length).2]
theorem pgTo_succ (L : List Fl) (o : Fl) {k : Nat} (hk : k < L.length) : pgTo L o (k + 1) = pgStep (pgTo L o k) L[k] := by
  unfold pgTo; rw [List.take_succ_eq_append_getElem hk, List.foldl_append]; rfl
theorem mrg_fine {o x : Fl} (ho : fine o) (hx : fine x) (ht : tch o x = true) : fine (mrg o x) := by
  obtain ⟨h1, h2, h3⟩ := (tch_iff o x).mp ht
  unfold fine mrg at *; simp only; omega
theorem pgTo_fine (L : List Fl) (o : Fl) (hL : ∀ x, x ∈ L → fine x) (ho : fine o) : ∀ k, k ≤ L.length → fine (pgTo L o k).2 ∧ (pgTo L o k).2.s = o.s ∧ (∀ x, x ∈ (pgTo L o k).1 → fine x) ∧ (pgTo L o k).1.length ≤ k := by
  intro k
  induction k with
  | zero => intro _; exact ⟨ho, rfl, fun x hx => by simp [pgTo] at hx, Nat.le_refl _⟩
  | succ k ih =>
    intro hk
    obtain ⟨h1, h2, h3, h4⟩ := ih (by omega)
    rw [pgTo_succ L o (by omega)]
    unfold pgStep
    by_cases ht : tch (pgTo L o k).2 L[k] = true
    · rw [if_pos ht]
      exact ⟨mrg_fine h1 (hL _ (List.getElem_mem _)) ht, h2, h3, by show (pgTo L o k).1.length ≤ k + 1; omega⟩
    · rw [if_neg ht]
      refine ⟨h1, h2, fun x hx => ?_, by simp; omega⟩
      rcases List.mem_append.mp hx with hx | hx
      · exact h3 x hx
      · simp at hx; subst hx; exact hL _ (List.getElem_mem _)

set_option maxHeartbeats 1000000 in
theorem touch_any (o x : Fl) (ho : fine o) (hx : fine x) (n5 n9 : Nat) (w : World) (h5 : w.heap[n5]? = some (.cells #[.int .i64 o.s] 3 (0, 0))) (h9 : w.heap[n9]? = some (.cells #[.int .i64 o.s, .int .i64 o.p, .int .i64 o.n] 40 (0, 0))) :
    Calls Try.prog 25 #[.agg #[.int .i64 x.s, .int .i64 x.p, .int .i64 x.n], .pointer (some ⟨n5, 0, none⟩), .pointer (some ⟨n9, 0, none⟩)] w fun e w' => e = .returned (.bool (tch o x)) ∧ Keep (fun _ => False) w w' := by
  have e5 : w.cell? ⟨n5, 0, none⟩ = some (.int .i64 o.s) := by rw [cell_block h5]; rfl
  obtain ⟨e9, e10, e11⟩ := cells3 h9
  have k5 : (w.alloc (.cells #[.int .i64 x.s, .int .i64 x.p, .int .i64 x.n] 40)).cell? ⟨n5, 0, none⟩ = some (.int .i64 o.s) := (cell_alloc_lt (block_lt h5)).trans e5
  have k1 : (w.alloc (.cells #[.int .i64 x.s, .int .i64 x.p, .int .i64 x.n] 40)).cell? ⟨n9, 1, none⟩ = some (.int .i64 o.p) := (cell_alloc_lt (block_lt h9)).trans e10
  have k2 : (w.alloc (.cells #[.int .i64 x.s, .int .i64 x.p, .int .i64 x.n] 40)).cell? ⟨n9, 2, none⟩ = some (.int .i64 o.n) := (cell_alloc_lt (block_lt h9)).trans e11
  clear e5 e9 e10 e11
  obtain ⟨ho1, ho2, ho3, ho4⟩ := ho
  obtain ⟨hx1, hx2, hx3, hx4⟩ := hx
  have ho5 : o.p + o.n ≤ 100000 := by omega
  have hx5 : x.p + x.n ≤ 100000 := by omega
  by_cases t1 : x.s = o.s
  · have t1' : (x.s == o.s) = true := by simpa using t1
    by_cases t2 : x.p ≤ o.p + o.n
    · by_cases t3 : o.p ≤ x.p + x.n
      · have HT : Hid (tch o x = true) := (tch_iff o x).mpr ⟨t1, t2, t3⟩
        clear t1
        go_enter Try.func25, Try.ntmps25
        go_wp2
        go_ret
        exact ⟨ret_bool HT.out.symm, (by (repeat (first | exact Keep.refl _ _ | exact Keep.refl _ _ | refine Keep.drew ?_ | refine Keep.drewN ?_ _ | refine Keep.alloc ?_ _ | refine Keep.setNew ?_ (by omega) _)); done)⟩
      · have HT : Hid (tch o x = false) := by unfold Hid; rw [← Bool.not_eq_true, tch_iff]; exact fun h => t3 h.2.2
        clear t1
        go_enter Try.func25, Try.ntmps25
        go_wp2
        go_ret
        exact ⟨ret_bool HT.out.symm, (by (repeat (first | exact Keep.refl _ _ | exact Keep.refl _ _ | refine Keep.drew ?_ | refine Keep.drewN ?_ _ | refine Keep.alloc ?_ _ | refine Keep.setNew ?_ (by omega) _)); done)⟩
    · have HT : Hid (tch o x = false) := by unfold Hid; rw [← Bool.not_eq_true, tch_iff]; exact fun h => t2 h.2.1
      clear t1
      go_enter Try.func25, Try.ntmps25
      go_wp2
      go_ret
      exact ⟨ret_bool HT.out.symm, (by (repeat (first | exact Keep.refl _ _ | exact Keep.refl _ _ | refine Keep.drew ?_ | refine Keep.drewN ?_ _ | refine Keep.alloc ?_ _ | refine Keep.setNew ?_ (by omega) _)); done)⟩
  · have HT : Hid (tch o x = false) := by unfold Hid; rw [← Bool.not_eq_true, tch_iff]; exact fun h => t1 h.1
    have t1' : (x.s == o.s) = false := by simpa using t1
    clear t1
    go_enter Try.func25, Try.ntmps25
    go_wp2
    go_ret
    exact ⟨ret_bool HT.out.symm, (by (repeat (first | exact Keep.refl _ _ | exact Keep.refl _ _ | refine Keep.drew ?_ | refine Keep.drewN ?_ _ | refine Keep.alloc ?_ _ | refine Keep.setNew ?_ (by omega) _)); done)⟩

end Go.Proofs.Ytibcfglfcoljgaa
