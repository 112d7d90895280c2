/- Gather: light, Same; GatherOrders. -/
import Derived.Test.YtibcfglfcoljgaaW
import Derived.Test.YtibcfglfcoljgaaE
import Derived.Outline
set_option linter.unusedVariables false
set_option linter.unusedSimpArgs false
namespace Go.Proofs.Ytibcfglfcoljgaa
open Go.RowKit Go.Own

/-- A call. -/
structure Ac where
  k : Int
  s : Int
  p : Int
  n : Int
  f : Int
  o : Int
def acV (a : Ac) : Value := .agg #[.int .i64 a.k, .int .i64 a.s, .int .i64 a.p, .int .i64 a.n, .int .i64 a.f, .int .i64 a.o]
def lt (a : Ac) : Ac := { a with n := if 0 ≤ a.p ∧ a.p < 4096 ∧ 60 < a.n ∧ a.n ≤ 4096 - a.p then 60 else a.n }
/-- The stretch that it speaks of. -/
def acF (a : Ac) : Fl := ⟨a.s, a.p, (lt a).n⟩

theorem cells6 {w : World} {b e : Nat} {x0 x1 x2 x3 x4 x5 : Value} {z : Nat × Nat} (hb : w.heap[b]? = some (.cells #[x0, x1, x2, x3, x4, x5] e z)) :
    w.cell? ⟨b, 0, none⟩ = some x0 ∧ w.cell? ⟨b, 1, none⟩ = some x1 ∧ w.cell? ⟨b, 2, none⟩ = some x2 ∧ w.cell? ⟨b, 3, none⟩ = some x3 ∧ w.cell? ⟨b, 4, none⟩ = some x4 ∧ w.cell? ⟨b, 5, none⟩ = some x5 := by simp [cell_block hb]

set_option maxRecDepth 100000 in
set_option maxHeartbeats 2000000 in
theorem light_any (a : Ac) (w : World) : Calls Try.prog 16 #[acV a] w fun e w' => e = .returned (acV (lt a)) ∧ Keep (fun _ => False) w w' := by
  unfold acV
  have hlt : (lt a).k = a.k ∧ (lt a).s = a.s ∧ (lt a).p = a.p ∧ (lt a).f = a.f ∧ (lt a).o = a.o := ⟨rfl, rfl, rfl, rfl, rfl⟩
  obtain ⟨l1, l2, l3, l4, l5⟩ := hlt
  rw [l1, l2, l3, l4, l5]
  clear l1 l2 l3 l4 l5
  by_cases hc : 0 ≤ a.p ∧ a.p < 4096 ∧ 60 < a.n ∧ a.n ≤ 4096 - a.p
  · have HN : Hid ((lt a).n = 60) := by unfold Hid lt; simp only; rw [if_pos hc]
    obtain ⟨h1, h2, h3, h4⟩ := hc
    go_enter Try.func16, Try.ntmps16
    go_wp2
    refine bodyPost_ret (v := .agg #[.int .i64 a.k, .int .i64 a.s, .int .i64 a.p, .int .i64 60, .int .i64 a.f, .int .i64 a.o]) ?_ rfl ⟨by rw [HN.out], ?_⟩
    · simp [results, Try.results16, go_sem]
    · exact (by (repeat (first | exact Keep.refl _ _ | exact Keep.refl _ _ | refine Keep.drew ?_ | refine Keep.drewN ?_ _ | refine Keep.alloc ?_ _ | refine Keep.setNew ?_ (by omega) _)); done)
  · have HN : Hid ((lt a).n = a.n) := by unfold Hid lt; simp only; rw [if_neg hc]
    have hside : a.p < 0 ∨ (0 ≤ a.p ∧ 4096 ≤ a.p) ∨ (0 ≤ a.p ∧ a.p < 4096 ∧ a.n ≤ 60) ∨ (0 ≤ a.p ∧ a.p < 4096 ∧ 60 < a.n ∧ 4096 - a.p < a.n) := by omega
    clear hc
    rcases hside with h1 | ⟨h1, h2⟩ | ⟨h1, h2, h3⟩ | ⟨h1, h2, h3, h4⟩
    all_goals
      go_enter Try.func16, Try.ntmps16
      go_wp2
      refine bodyPost_ret (v := .agg #[.int .i64 a.k, .int .i64 a.s, .int .i64 a.p, .int .i64 a.n, .int .i64 a.f, .int .i64 a.o]) ?_ rfl ⟨by rw [HN.out], ?_⟩
      · simp [results, Try.results16, go_sem]
      · exact (by (repeat (first | exact Keep.refl _ _ | exact Keep.refl _ _ | refine Keep.drew ?_ | refine Keep.drewN ?_ _ | refine Keep.alloc ?_ _ | refine Keep.setNew ?_ (by omega) _)); done)

theorem same_fl (B C : Nat) (v u : Value) (X : List Fl) (w : World) (hv : OwnL flE w B 40 v X) (hu : OwnL flE w C 40 u X) (hl : X.length ≤ 1000000) :
    Calls Try.prog 12 #[v, u] w fun e w' => e = .returned (.bool true) ∧ Keep (fun _ => False) w w' := by
  obtain ⟨a1, c1, rfl, hag1⟩ := hv.slice
  obtain ⟨a2, c2, rfl, hag2⟩ := hu.slice
  have HAG1 := Lib.hid hag1
  have HAG2 := Lib.hid hag2
  clear hag1 hag2
  go_enter Try.func12, Try.ntmps12
  go_wp2
  go_loopw [5] (fun i wr => ∃ k : Nat, k ≤ X.length ∧ i = .int .i64 k ∧ Keep (fun _ => False) w wr) (fun i _ => X.length - (intOf i).toNat)
  case atStart => exact ⟨0, by omega, rfl, Keep.refl _ _⟩
  case round =>
    obtain ⟨k, hk, rfl, hkeep⟩ := hrel
    have HK := Lib.hid hkeep
    clear hkeep
    by_cases hlt : k < X.length
    · obtain ⟨g, rfl⟩ := HAG1.out (by intro e; rw [e] at hlt; simp at hlt)
      obtain ⟨g2, rfl⟩ := HAG2.out (by intro e; rw [e] at hlt; simp at hlt)
      obtain ⟨c0, c1, c2⟩ := fl_cells (hv.keep HK.out (fun _ _ => id)) hlt
      obtain ⟨d0, d1, d2⟩ := fl_cells (hu.keep HK.out (fun _ _ => id)) hlt
      go_wp2
      go_quiet (fail)
      go_wp2
      go_roundw
      case rel => exact ⟨k + 1, by omega, by go_num, HK.out.drewN _⟩
      case measure => simp [intOf]; omega
    · go_wp2
      go_ret
      exact ⟨rfl, HK.out⟩
theorem same_bk (B C : Nat) (v u : Value) (X : List Bk) (w : World) (hv : OwnL bkE w B 48 v X) (hu : OwnL bkE w C 48 u X) (hl : X.length ≤ 1000000) :
    Calls Try.prog 13 #[v, u] w fun e w' => e = .returned (.bool true) ∧ Keep (fun _ => False) w w' := by
  obtain ⟨a1, c1, rfl, hag1⟩ := hv.slice
  obtain ⟨a2, c2, rfl, hag2⟩ := hu.slice
  have HAG1 := Lib.hid hag1
  have HAG2 := Lib.hid hag2
  clear hag1 hag2
  go_enter Try.func13, Try.ntmps13
  go_wp2
  go_loopw [5] (fun i wr => ∃ k : Nat, k ≤ X.length ∧ i = .int .i64 k ∧ Keep (fun _ => False) w wr) (fun i _ => X.length - (intOf i).toNat)
  case atStart => exact ⟨0, by omega, rfl, Keep.refl _ _⟩
  case round =>
    obtain ⟨k, hk, rfl, hkeep⟩ := hrel
    have HK := Lib.hid hkeep
    clear hkeep
    by_cases hlt : k < X.length
    · obtain ⟨g, rfl⟩ := HAG1.out (by intro e; rw [e] at hlt; simp at hlt)
      obtain ⟨g2, rfl⟩ := HAG2.out (by intro e; rw [e] at hlt; simp at hlt)
      obtain ⟨c0, c1⟩ := bk_cells (hv.keep HK.out (fun _ _ => id)) hlt
      obtain ⟨d0, d1⟩ := bk_cells (hu.keep HK.out (fun _ _ => id)) hlt
      go_wp2
      go_quiet (fail)
      go_wp2
      go_roundw
      case rel => exact ⟨k + 1, by omega, by go_num, HK.out.drewN _⟩
      case measure => simp [intOf]; omega
    · go_wp2
      go_ret
      exact ⟨rfl, HK.out⟩

/-- The calls as they came in. -/
def ActsG (w : World) (la : Option Addr) (A : List Ac) : Prop :=
  ∀ i (h : i < A.length), ∃ b o, la = some ⟨b, o, none⟩ ∧ w.cell? ⟨b, o + i * 6, none⟩ = some (.int .i64 A[i].k) ∧ w.cell? ⟨b, o + i * 6 + 1, none⟩ = some (.int .i64 A[i].s) ∧ w.cell? ⟨b, o + i * 6 + 1 + 1, none⟩ = some (.int .i64 A[i].p) ∧
    w.cell? ⟨b, o + i * 6 + 1 + 1 + 1, none⟩ = some (.int .i64 A[i].n) ∧ w.cell? ⟨b, o + i * 6 + 1 + 1 + 1 + 1, none⟩ = some (.int .i64 A[i].f) ∧ w.cell? ⟨b, o + i * 6 + 1 + 1 + 1 + 1 + 1, none⟩ = some (.int .i64 A[i].o)
theorem actsG_of_rows {w : World} {la : Option Addr} {l : Nat} (h : RowsAt w la l [.int .i64, .int .i64, .int .i64, .int .i64, .int .i64, .int .i64]) : ∃ A : List Ac, A.length = l ∧ ActsG w la A := by
  have h2 : ∀ i, i < l → ∃ x : Ac, ∃ b o, la = some ⟨b, o, none⟩ ∧ w.cell? ⟨b, o + i * 6, none⟩ = some (.int .i64 x.k) ∧ w.cell? ⟨b, o + i * 6 + 1, none⟩ = some (.int .i64 x.s) ∧ w.cell? ⟨b, o + i * 6 + 1 + 1, none⟩ = some (.int .i64 x.p) ∧
    w.cell? ⟨b, o + i * 6 + 1 + 1 + 1, none⟩ = some (.int .i64 x.n) ∧ w.cell? ⟨b, o + i * 6 + 1 + 1 + 1 + 1, none⟩ = some (.int .i64 x.f) ∧ w.cell? ⟨b, o + i * 6 + 1 + 1 + 1 + 1 + 1, none⟩ = some (.int .i64 x.o) := by
    intro i hi
    obtain ⟨b, o, cs, ha, hf, hc⟩ := h i hi
    have hl := hf.length
    obtain ⟨c0, c1, c2, c3, c4, c5, rfl⟩ : ∃ c0 c1 c2 c3 c4 c5, cs = [c0, c1, c2, c3, c4, c5] := by
      rcases cs with _ | ⟨c0, _ | ⟨c1, _ | ⟨c2, _ | ⟨c3, _ | ⟨c4, _ | ⟨c5, _ | ⟨c6, cs⟩⟩⟩⟩⟩⟩⟩ <;> simp at hl
      exact ⟨c0, c1, c2, c3, c4, c5, rfl⟩
    obtain ⟨⟨x0, rfl, _⟩, ⟨x1, rfl, _⟩, ⟨x2, rfl, _⟩, ⟨x3, rfl, _⟩, ⟨x4, rfl, _⟩, ⟨x5, rfl, _⟩, _⟩ := hf
    have h0 := hc 0 (by decide)
    have h1 := hc 1 (by decide)
    have h2 := hc 2 (by decide)
    have h3 := hc 3 (by decide)
    have h4 := hc 4 (by decide)
    have h5 := hc 5 (by decide)
    simp only [List.length_cons, List.length_nil, Nat.reduceAdd, Nat.add_zero, ← Nat.add_assoc, List.getElem?_cons_zero, List.getElem?_cons_succ] at h0 h1 h2 h3 h4 h5
    exact ⟨⟨x0, x1, x2, x3, x4, x5⟩, b, o, ha, h0, h1, h2, h3, h4, h5⟩
  haveI : Inhabited Ac := ⟨⟨0, 0, 0, 0, 0, 0⟩⟩
  obtain ⟨F, hF⟩ := Deep.choose_lt h2
  exact ⟨(List.range l).map F, by simp, fun i hi => by
    have := hF i (by simpa using hi)
    simpa using this⟩
theorem ActsG.keep {w w' : World} {la : Option Addr} {A : List Ac} (h : ActsG w la A) (k : Keep (fun _ => False) w w') : ActsG w' la A := by
  intro i hi
  obtain ⟨b, o, h1, h2, h3, h4, h5, h6, h7⟩ := h i hi
  have f : ∀ {j : Nat} {x : Value}, w.cell? ⟨b, j, none⟩ = some x → w'.cell? ⟨b, j, none⟩ = some x := fun h => (k.cell (block_lt_cell h) id).trans h
  exact ⟨b, o, h1, f h2, f h3, f h4, f h5, f h6, f h7⟩

end Go.Proofs.Ytibcfglfcoljgaa
