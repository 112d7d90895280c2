/- Reservations: one call of both; some calls. -/
import Derived.Test.YtmbgebmhdofdaaaAD
import Derived.Test.YtmbgebmhdofdaaaI
import Derived.Test.YtmbgebmhdofdaaaArgs
set_option linter.unusedVariables false
set_option linter.unusedSimpArgs false
namespace Go.Proofs.Ytmbgebmhdofdaaa
open Go.RowKit Go.Own

def DoC (B p q n : Nat) (w : World) (e : Ending) (w' : World) : Prop := e = .returned (.bool true) ∧ KB B w w' ∧ Two w' B p q (n + 1)

theorem s3 {w W : World} {b : Nat} {x1 x2 x3 : Value} (h : W.heap[b]? = w.heap[b]?) (hx : w.cell? ⟨b, 1, none⟩ = some x1 ∧ w.cell? ⟨b, 2, none⟩ = some x2 ∧ w.cell? ⟨b, 3, none⟩ = some x3) :
    W.cell? ⟨b, 1, none⟩ = some x1 ∧ W.cell? ⟨b, 2, none⟩ = some x2 ∧ W.cell? ⟨b, 3, none⟩ = some x3 :=
  ⟨(World.cell?_of_block (w := w) h).trans hx.1, (World.cell?_of_block (w := w) h).trans hx.2.1, (World.cell?_of_block (w := w) h).trans hx.2.2⟩
theorem c123 {w : World} {b e : Nat} {x0 x1 x2 x3 : Value} {z : Nat × Nat} (hb : w.heap[b]? = some (.cells #[x0, x1, x2, x3] e z)) : w.cell? ⟨b, 1, none⟩ = some x1 ∧ w.cell? ⟨b, 2, none⟩ = some x2 ∧ w.cell? ⟨b, 3, none⟩ = some x3 := (cells4 hb).2
theorem c12 {w : World} {b e : Nat} {x0 x1 x2 x3 : Value} {z : Nat × Nat} (hb : w.heap[b]? = some (.cells #[x0, x1, x2, x3] e z)) : w.cell? ⟨b, 1, none⟩ = some x1 ∧ w.cell? ⟨b, 2, none⟩ = some x2 := ⟨(cells4 hb).2.1, (cells4 hb).2.2.1⟩

set_option maxRecDepth 100000 in
set_option maxHeartbeats 4000000 in
theorem do_any {w : World} {B p q n : Nat} (K s y f : Int) (h : Two w B p q n) (hn : n < 100) (hB : B ≤ w.heap.size) (hy : i64R y) :
    Calls Try.prog 25 #[.pointer (some ⟨p, 0, none⟩), .pointer (some ⟨q, 0, none⟩), .agg #[.int .i64 K, .int .i64 s, .int .i64 y, .int .i64 f]] w (DoC B p q n w) := by
  have KW : Hid (Keep (fun _ => False) w (w.alloc (.cells #[.int .i64 K, .int .i64 s, .int .i64 y, .int .i64 f] 59))) := (Keep.refl _ _).alloc _
  obtain ⟨x0, x1, x2, x3⟩ := cells4 (heap_alloc_new w (.cells #[.int .i64 K, .int .i64 s, .int .i64 y, .int .i64 f] 59))
  have HB0 : Hid ((w.alloc (.cells #[.int .i64 K, .int .i64 s, .int .i64 y, .int .i64 f] 59)).heap[w.heap.size]? = some (.cells #[.int .i64 K, .int .i64 s, .int .i64 y, .int .i64 f] 59 (0, 0))) := heap_alloc_new w _
  have hB1 : B ≤ (w.alloc (.cells #[.int .i64 K, .int .i64 s, .int .i64 y, .int .i64 f] 59)).heap.size := by have := KW.out.size; omega
  have H1 := Lib.hid (h.keep0 KW.out)
  clear h
  by_cases k1 : K = 0 ∨ K = 1
  · obtain ⟨E, hE⟩ := make_pair (H1.out.keep0 (Keep.drew (Keep.refl _ _))) hn s y f hB1
    have HE := Lib.hid hE
    clear hE
    rcases k1 with rfl | rfl
    all_goals
      go_enter Try.func25, Try.ntmps25
      go_wp2
      go_region_held3 (fun w' => w'.cell? ⟨w.heap.size, 1, none⟩ = some (.int .i64 s) ∧ w'.cell? ⟨w.heap.size, 2, none⟩ = some (.int .i64 y) ∧ w'.cell? ⟨w.heap.size, 3, none⟩ = some (.int .i64 f))
        (first | exact c123 HB0.out | exact c123 HC4.out | exact c123 HC5.out)
        (first | (go_at_call 13; refine HE.out.mono ?_; rintro e w4 ⟨rfl, hk4, hx4⟩; have HC4 := Lib.hid (hk4.other HB0.out (by unfold My; decide)); have HK4 := Lib.hid hk4; have HX4 := Lib.hid hx4; clear hk4 hx4) | (go_at_call 36; refine (HX4.out _ (by (repeat (first | exact Keep.refl _ _ | exact Keep.refl _ _ | refine Keep.drew ?_ | refine Keep.drewN ?_ _ | refine Keep.alloc ?_ _ | refine Keep.setNew ?_ (by omega) _)); done)).mono ?_; rintro e w5 ⟨rfl, hk5, ht5⟩; have HC5 := Lib.hid (hk5.other HC4.out (by unfold My; decide)); have HK5 := Lib.hid hk5; have HT5 := Lib.hid ht5; clear hk5 ht5))
      go_wp2
      go_ret
      exact ⟨rfl, (KB.of (by (repeat (first | exact KW.out | exact Keep.refl _ _ | refine Keep.drew ?_ | refine Keep.drewN ?_ _ | refine Keep.alloc ?_ _ | refine Keep.setNew ?_ (by omega) _)); done)).trans (HK4.out.trans HK5.out), HT5.out⟩
  by_cases k2 : K = 2 ∨ K = 3 ∨ K = 4
  · obtain ⟨V, E, hE⟩ := fill_pair H1.out hn s y hy hB1
    have HE := Lib.hid hE
    clear hE k1
    rcases k2 with rfl | rfl | rfl
    all_goals
      go_enter Try.func25, Try.ntmps25
      go_wp2_with (first | (go_at_call 14; refine HE.out.mono ?_; rintro e w4 ⟨rfl, hk4, hx4⟩; have HC4 := Lib.hid (hk4.other HB0.out (by unfold My; decide)); have HK4 := Lib.hid hk4; have HX4 := Lib.hid hx4; obtain ⟨y1, y2⟩ := c12 HC4.out; clear hk4 hx4) | (go_at_call 37; refine (HX4.out _ (by (repeat (first | exact Keep.refl _ _ | exact Keep.refl _ _ | refine Keep.drew ?_ | refine Keep.drewN ?_ _ | refine Keep.alloc ?_ _ | refine Keep.setNew ?_ (by omega) _)); done)).mono ?_; rintro e w5 ⟨rfl, hk5, ht5⟩; have HC5 := Lib.hid (hk5.other HC4.out (by unfold My; decide)); have HK5 := Lib.hid hk5; have HT5 := Lib.hid ht5; clear hk5 ht5))
      go_ret
      exact ⟨rfl, (KB.of (by (repeat (first | exact KW.out | exact Keep.refl _ _ | refine Keep.drew ?_ | refine Keep.drewN ?_ _ | refine Keep.alloc ?_ _ | refine Keep.setNew ?_ (by omega) _)); done)).trans (HK4.out.trans HK5.out), HT5.out⟩
  by_cases k3 : K = 5
  · obtain ⟨E, hE⟩ := clear_pair (H1.out.keep0 (Keep.drew (Keep.refl _ _))) hn s y hy hB1
    have HE := Lib.hid hE
    clear hE k1 k2
    subst k3
    go_enter Try.func25, Try.ntmps25
    go_wp2
    go_region_held3 (fun w' => w'.cell? ⟨w.heap.size, 1, none⟩ = some (.int .i64 s) ∧ w'.cell? ⟨w.heap.size, 2, none⟩ = some (.int .i64 y))
      (first | exact c12 HB0.out | exact c12 HC4.out | exact c12 HC5.out)
      (first | (go_at_call 15; refine HE.out.mono ?_; rintro e w4 ⟨rfl, hk4, hx4⟩; have HC4 := Lib.hid (hk4.other HB0.out (by unfold My; decide)); have HK4 := Lib.hid hk4; have HX4 := Lib.hid hx4; clear hk4 hx4) | (go_at_call 38; refine (HX4.out _ (by (repeat (first | exact Keep.refl _ _ | exact Keep.refl _ _ | refine Keep.drew ?_ | refine Keep.drewN ?_ _ | refine Keep.alloc ?_ _ | refine Keep.setNew ?_ (by omega) _)); done)).mono ?_; rintro e w5 ⟨rfl, hk5, ht5⟩; have HC5 := Lib.hid (hk5.other HC4.out (by unfold My; decide)); have HK5 := Lib.hid hk5; have HT5 := Lib.hid ht5; clear hk5 ht5))
    go_wp2
    go_ret
    exact ⟨rfl, (KB.of (by (repeat (first | exact KW.out | exact Keep.refl _ _ | refine Keep.drew ?_ | refine Keep.drewN ?_ _ | refine Keep.alloc ?_ _ | refine Keep.setNew ?_ (by omega) _)); done)).trans (HK4.out.trans HK5.out), HT5.out⟩
  · have q0 : (K == 0) = false := by simp; omega
    have q1 : (K == 1) = false := by simp; omega
    have q2 : (K == 2) = false := by simp; omega
    have q3 : (K == 3) = false := by simp; omega
    have q4 : (K == 4) = false := by simp; omega
    have q5 : (K == 5) = false := by simp; omega
    clear k1 k2 k3
    obtain ⟨M, E, hM, hE⟩ := break_pair H1.out hn s y hy hB1
    have HE := Lib.hid hE
    clear hE
    go_enter Try.func25, Try.ntmps25
    go_wp2_with (first | (go_at_call 16; refine HE.out.mono ?_; rintro e w4 ⟨y4, rfl, hO4, hk4, hx4⟩; have HC4 := Lib.hid (hk4.other HB0.out (by unfold My; decide)); have HK4 := Lib.hid hk4; have HX4 := Lib.hid hx4; obtain ⟨y1, y2⟩ := c12 HC4.out; obtain ⟨a4, c4, rfl, -⟩ := hO4.slice; clear hk4 hx4 hO4) | (go_at_call 20; refine (HX4.out _ (by (repeat (first | exact Keep.refl _ _ | exact Keep.refl _ _ | refine Keep.drew ?_ | refine Keep.drewN ?_ _ | refine Keep.alloc ?_ _ | refine Keep.setNew ?_ (by omega) _)); done)).mono ?_; rintro e w5 ⟨y5, rfl, hO5, hO4, hk5, ht5⟩; have HO5 := Lib.hid hO5; have HO4 := Lib.hid hO4; have HK5 := Lib.hid hk5; have HT5 := Lib.hid ht5; obtain ⟨a5, c5, rfl, -⟩ := hO5.slice; clear hk5 ht5 hO4 hO5) | (go_at_call 21; refine (numbers_eq _ _ _ _ M _ HO4.out HO5.out (by omega)).mono ?_; rintro e w6 ⟨rfl, hk6⟩; have HK6 := Lib.hid hk6; clear hk6))
    go_ret
    exact ⟨rfl, (KB.of (by (repeat (first | exact KW.out | exact Keep.refl _ _ | refine Keep.drew ?_ | refine Keep.drewN ?_ _ | refine Keep.alloc ?_ _ | refine Keep.setNew ?_ (by omega) _)); done)).trans (HK4.out.trans (HK5.out.trans (KB.of HK6.out))), HT5.out.keep0 HK6.out⟩

structure A4 where
  k : Int
  s : Int
  y : Int
  f : Int
def Acts4 (w : World) (la : Option Addr) (A : List A4) : Prop :=
  ∀ i (h : i < A.length), ∃ b o, la = some ⟨b, o, none⟩ ∧ w.cell? ⟨b, o + i * 4, none⟩ = some (.int .i64 A[i].k) ∧ w.cell? ⟨b, o + i * 4 + 1, none⟩ = some (.int .i64 A[i].s) ∧ w.cell? ⟨b, o + i * 4 + 1 + 1, none⟩ = some (.int .i64 A[i].y) ∧ w.cell? ⟨b, o + i * 4 + 1 + 1 + 1, none⟩ = some (.int .i64 A[i].f) ∧ i64R A[i].y

theorem acts4_of_rows {w : World} {la : Option Addr} {l : Nat} (h : RowsAt w la l [.int .i64, .int .i64, .int .i64, .int .i64]) : ∃ A : List A4, A.length = l ∧ Acts4 w la A := by
  have h2 : ∀ i, i < l → ∃ x : A4, ∃ b o, la = some ⟨b, o, none⟩ ∧ w.cell? ⟨b, o + i * 4, none⟩ = some (.int .i64 x.k) ∧ w.cell? ⟨b, o + i * 4 + 1, none⟩ = some (.int .i64 x.s) ∧ w.cell? ⟨b, o + i * 4 + 1 + 1, none⟩ = some (.int .i64 x.y) ∧ w.cell? ⟨b, o + i * 4 + 1 + 1 + 1, none⟩ = some (.int .i64 x.f) ∧ i64R x.y := by
    intro i hi
    obtain ⟨b, o, cs, ha, hf, hc⟩ := h i hi
    have hl := hf.length
    obtain ⟨c0, c1, c2, c3, rfl⟩ : ∃ c0 c1 c2 c3, cs = [c0, c1, c2, c3] := by
      rcases cs with _ | ⟨c0, _ | ⟨c1, _ | ⟨c2, _ | ⟨c3, _ | ⟨c4, cs⟩⟩⟩⟩⟩ <;> simp at hl
      exact ⟨c0, c1, c2, c3, rfl⟩
    obtain ⟨⟨k, rfl, _⟩, ⟨s, rfl, _⟩, ⟨y, rfl, hw⟩, ⟨f, rfl, _⟩, _⟩ := hf
    have h0 := hc 0 (by decide)
    have h1 := hc 1 (by decide)
    have h2 := hc 2 (by decide)
    have h3 := hc 3 (by decide)
    simp only [List.length_cons, List.length_nil, Nat.reduceAdd, Nat.add_zero, ← Nat.add_assoc, List.getElem?_cons_zero, List.getElem?_cons_succ] at h0 h1 h2 h3
    have := wf64 hw
    exact ⟨⟨k, s, y, f⟩, b, o, ha, h0, h1, h2, h3, this.1, by show y < _; omega⟩
  haveI : Inhabited A4 := ⟨⟨0, 0, 0, 0⟩⟩
  obtain ⟨F, hF⟩ := Deep.choose_lt h2
  exact ⟨(List.range l).map F, by simp, fun i hi => by
    have := hF i (by simpa using hi)
    simpa using this⟩
theorem Acts4.keep {w w' : World} {la : Option Addr} {A : List A4} (h : Acts4 w la A) (k : Keep (fun _ => False) w w') : Acts4 w' la A := by
  intro i hi
  obtain ⟨b, o, h1, h2, h3, h4, h5, h6⟩ := h i hi
  exact ⟨b, o, h1, (k.cell (block_lt_cell h2) id).trans h2, (k.cell (block_lt_cell h3) id).trans h3, (k.cell (block_lt_cell h4) id).trans h4, (k.cell (block_lt_cell h5) id).trans h5, h6⟩

def MadeC (w : World) (e : Ending) (w' : World) : Prop := ∃ p q, e = .returned (.tuple #[.pointer (some ⟨p, 0, none⟩), .pointer (some ⟨q, 0, none⟩), .bool true]) ∧ Two w' w.heap.size p q 60 ∧ Keep (fun _ => False) w w'

set_option maxRecDepth 100000 in
set_option maxHeartbeats 2000000 in
theorem made_any (la : Option Addr) (A : List A4) (c : Nat) (w : World) (hA : Acts4 w la A) : Calls Try.prog 8 #[.slice la A.length c] w (MadeC w) := by
  have H1 := Lib.hid hA
  clear hA
  go_enter Try.func8, Try.ntmps8
  go_wp2_with (go_at_call 12; refine (new_any w.heap.size _ (Nat.le_refl _)).mono ?_; rintro e w1 ⟨p, rfl, hC, hp, hk⟩; have HC := Lib.hid hC; have HK := Lib.hid hk; clear hC hk)
  have HB : Hid (Two (w1.alloc (.cells #[.slice none 0 0, .int .i64 0] 48)) w.heap.size p w1.heap.size 0) :=
    ⟨.slice none 0 0, .slice none 0 0, [], [], 0, HC.out.keep0 ((Keep.refl _ _).alloc _),
      ⟨heap_alloc_new w1 _, OwnL.nil _ _ _, by simp, by simp [Value.ownBlock], by simp, by simp, by simp, by simp, by omega⟩, Inv.start, by simp, by simp, hp, HK.out.size⟩
  have HKW : Hid (Keep (fun _ => False) w (w1.alloc (.cells #[.slice none 0 0, .int .i64 0] 48))) := HK.out.alloc _
  obtain ⟨q, hq⟩ : ∃ q, w1.heap.size = q := ⟨_, rfl⟩
  rw [hq] at HB ⊢
  generalize w1.alloc (.cells #[.slice none 0 0, .int .i64 0] 48) = w2 at HB HKW ⊢
  clear hq HC HK
  go_loopw [7] (fun i wr => ∃ k : Nat, k ≤ A.length ∧ k ≤ 60 ∧ i = .int .i64 k ∧ Two wr w.heap.size p q k ∧ Keep (fun _ => False) w wr) (fun i _ => A.length - (intOf i).toNat)
  case atStart => exact ⟨0, by omega, by omega, rfl, HB.out, HKW.out⟩
  case round =>
    obtain ⟨k, hk, h80, rfl, hT, hkeep⟩ := hrel
    have HT := Lib.hid hT
    have HKW := Lib.hid hkeep
    clear hT hkeep
    by_cases hlt : k < A.length
    · by_cases h80 : k < 60
      · obtain ⟨b, o, rfl, c1, c2, c3, c4, hf⟩ := H1.out k hlt
        have d1 := (HKW.out.cell (block_lt_cell c1) id).trans c1
        have d2 := (HKW.out.cell (block_lt_cell c2) id).trans c2
        have d3 := (HKW.out.cell (block_lt_cell c3) id).trans c3
        have d4 := (HKW.out.cell (block_lt_cell c4) id).trans c4
        have HF := Lib.hid hf
        clear c1 c2 c3 c4 hf
        go_wp2_with (go_at_call 25; refine (do_any A[k].k A[k].s A[k].y A[k].f HT.out (by omega) HKW.out.size HF.out).mono ?_; rintro e w4 ⟨rfl, hk4, hT4⟩; have HT4 := Lib.hid hT4; have HK4 := Lib.hid (KB.fresh HKW.out hk4); clear hT4 hk4)
        go_roundw
        case rel => exact ⟨k + 1, by omega, by omega, by go_num, HT4.out, HK4.out⟩
        case measure => simp [intOf]; omega
      · go_wp2
        go_ret3
        exact ⟨p, q, rfl, HT.out.up (by omega), HKW.out⟩
    · go_wp2
      all_goals
        go_ret3
        exact ⟨p, q, rfl, HT.out.up (by omega), HKW.out⟩

end Go.Proofs.Ytmbgebmhdofdaaa
