/- made, awake. -/
import Derived.Test.YtajjelfeldofgaaE
import Derived.Test.YtajjelfeldofgaaArgs
import Derived.Deep.RegionHeld3
import Derived.Deep.QuietTactic
import Derived.BigQuiet
namespace Go.Proofs.Ytajjelfeldofgaa
open Go.RowKit Go.Own

structure A4 where
  f : Int
  n : Int
  a : Int
  b : Int

/-- The slice at la reads as these calls. -/
def ActsAt (w : World) (la : Option Addr) (A : List A4) : Prop :=
  ∀ i (h : i < A.length), ∃ b o, la = some ⟨b, o, none⟩ ∧ w.cell? ⟨b, o + i * 4, none⟩ = some (.int .i64 A[i].f) ∧ w.cell? ⟨b, o + i * 4 + 1, none⟩ = some (.int .i64 A[i].n) ∧
    w.cell? ⟨b, o + i * 4 + 1 + 1, none⟩ = some (.int .i64 A[i].a) ∧ w.cell? ⟨b, o + i * 4 + 1 + 1 + 1, none⟩ = some (.int .i64 A[i].b)

theorem RepF.same {w w' : World} {p q : Nat} {L : List Int} (h : RepF w p q L) (hp : w'.heap[p]? = w.heap[p]?) (hq : w'.heap[q]? = w.heap[q]?) : RepF w' p q L :=
  ⟨hp.trans h.hp, hq.trans h.hq, h.ne, h.lo, h.hi, h.st⟩
theorem RepF.keep {S : Nat → Prop} {w w' : World} {p q : Nat} {L : List Int} (h : RepF w p q L) (k : Keep S w w') (hp : ¬ S p) (hq : ¬ S q) : RepF w' p q L :=
  h.same (k.block p (block_lt h.hp) hp) (k.block q (block_lt h.hq) hq)
theorem RepR.keep {S : Nat → Prop} {w w' : World} {B p : Nat} {v : Value} {L : List Int} (h : RepR w B p v L) (k : Keep S w w') (hp : ¬ S p) (hv : ∀ k, v.ownBlock = some k → ¬ S k) : RepR w' B p v L :=
  ⟨(k.block p (block_lt h.hp) hp).trans h.hp, k.own h.hv hv, h.ne, h.lo, h.hi, h.st⟩

theorem block_lt_cell {w : World} {b o : Nat} {x : Value} (h : w.cell? ⟨b, o, none⟩ = some x) : b < w.heap.size := World.block_lt_of_cell? w _ h
theorem RepR.base {w : World} {B C p : Nat} {v : Value} {L : List Int} (h : RepR w B p v L) (hC : C ≤ B) : RepR w C p v L :=
  ⟨h.hp, ownsRow_base h.hv fun k hk => Nat.le_trans hC (h.hv.lt k hk).1, h.ne, h.lo, h.hi, h.st⟩
theorem kept4 {S : Nat → Prop} {w w' : World} {b e : Nat} {x0 x1 x2 x3 : Value} {z : Nat × Nat} (h : Keep S w w') (hb : w.heap[b]? = some (.cells #[x0, x1, x2, x3] e z)) (hs : ¬ S b) :
    w'.cell? ⟨b, 0, none⟩ = some x0 ∧ w'.cell? ⟨b, 1, none⟩ = some x1 ∧ w'.cell? ⟨b, 2, none⟩ = some x2 ∧ w'.cell? ⟨b, 3, none⟩ = some x3 := by
  have := (h.block b (block_lt hb) hs).trans hb
  simp [cell_block this]
/-- All calls, one behind the other. -/
def runL (L : List Int) : List A4 → List Int
  | [] => L
  | x :: r => runL (turnL L x.f x.n x.a x.b) r

/-- Both objects, apart: L. -/
structure Both (w : World) (p q p' : Nat) (v : Value) (B : Nat) (L : List Int) : Prop where
  f : RepF w p q L
  r : RepR w B p' v L
  pB : B ≤ p
  qB : B ≤ q
  rB : B ≤ p'
  n1 : p ≠ p'
  n2 : q ≠ p'
  n3 : v.ownBlock ≠ some p
  n4 : v.ownBlock ≠ some q

theorem turnL_length (L : List Int) (f n a b : Int) : (turnL L f n a b).length = L.length := by
  unfold turnL; split
  · rw [fillN_length]
  · rfl

theorem both_next {wr w1 w2 : World} {p q p' : Nat} {v v2 : Value} {B : Nat} {L M : List Int} (hB : Both wr p q p' v B L) (hF : RepF w1 p q M) (k0 : wr.heap.size ≤ w1.heap.size)
    (hR : RepR w2 B p' v2 M) (k2 : Keep (fun x => x = p') w1 w2) (hv : ∀ k, v2.ownBlock = some k → v.ownBlock = some k ∨ w1.heap.size ≤ k) : Both w2 p q p' v2 B M := by
  have e1 := block_lt hB.f.hp
  have e2 := block_lt hB.f.hq
  refine ⟨hF.keep k2 hB.n1 hB.n2, hR, hB.pB, hB.qB, hB.rB, hB.n1, hB.n2, ?_, ?_⟩
  all_goals
    intro e
    rcases hv _ e with h | h
    · first | exact hB.n3 h | exact hB.n4 h
    · omega

set_option maxHeartbeats 1000000 in
theorem made_no (n : Int) (la : Option Addr) (l c : Nat) (w : World) (h : n < 8 ∨ 1024 < n) :
    Calls Try.prog 9 #[.int .i64 n, .slice la l c] w fun e w' => e = .returned (.tuple #[.pointer none, .pointer none, .bool true]) ∧ w = w' := by
  go_enter Try.func9, Try.ntmps9
  go_wp2_with (first | (go_at_call 18; refine (new_no _ _ h).mono ?_; rintro e w1 ⟨rfl, rfl⟩) | (go_at_call 19; refine (rnew_no _ _ h).mono ?_; rintro e w1 ⟨rfl, rfl⟩))
  refine wp_loop_once ?_
  go_wp2
  go_ret3
  exact ⟨rfl, rfl⟩

set_option maxHeartbeats 1000000 in
theorem made_yes (n : Nat) (la : Option Addr) (A : List A4) (c : Nat) (w : World) (h : 8 ≤ n) (h' : n ≤ 1024) (hA : ActsAt w la A) :
    Calls Try.prog 9 #[.int .i64 n, .slice la A.length c] w fun e w' => ∃ p q p' v L, e = .returned (.tuple #[.pointer (some ⟨p, 0, none⟩), .pointer (some ⟨p', 0, none⟩), .bool true]) ∧
      Both w' p q p' v w.heap.size L ∧ L.length = n ∧ Keep (fun _ => False) w w' := by
  have H1 := Lib.hid hA
  clear hA
  go_enter Try.func9, Try.ntmps9
  go_wp2_with (first | (go_at_call 18; refine (new_yes n _ h h').mono ?_; rintro e w1 ⟨p, q, rfl, hRF, hp, hq, hk⟩; have HRF := Lib.hid hRF; have HK := Lib.hid hk; clear hRF hk)
                      | (go_at_call 19; refine (rnew_yes n w1.heap.size _ (Nat.le_refl _) h h').mono ?_; rintro e w2 ⟨p', v, rfl, hRR, hp', hk'⟩; have HRR0 := Lib.hid hRR; have HRR := Lib.hid (hRR.base HK.out.size); have HK' := Lib.hid hk'; clear hRR hk'))
  have HB : Hid (Both w2 p q p' v w.heap.size (List.replicate n 0)) := by
    have hsz := HK.out.size
    have hsz' := HK'.out.size
    have e1 := block_lt HRF.out.hp
    have e2 := block_lt HRF.out.hq
    refine ⟨HRF.out.keep HK'.out id id, HRR.out, hp, hq, by omega, by omega, by omega, ?_, ?_⟩
    all_goals
      intro e
      have := (HRR0.out.hv.lt _ e).1
      omega
  go_loopw [11] (fun i wr => ∃ k : Nat, k ≤ A.length ∧ i = .int .i64 k ∧ ∃ v L, Both wr p q p' v w.heap.size L ∧ L.length = n ∧ Keep (fun _ => False) w wr) (fun i _ => A.length - (intOf i).toNat)
  case atStart => exact ⟨0, by omega, rfl, v, _, HB.out, by simp, HK.out.trans HK'.out⟩
  case round =>
    obtain ⟨k, hk, rfl, v, L, hB, hL, hkeep⟩ := hrel
    have HB := Lib.hid hB
    have HL := Lib.hid hL
    have HKW := Lib.hid hkeep
    clear hB hL hkeep
    by_cases hlt : k < A.length
    · by_cases h60 : k < 60
      · obtain ⟨b, o, rfl, c1, c2, c3, c4⟩ := H1.out k hlt
        have d1 := (HKW.out.cell (block_lt_cell c1) id).trans c1
        have d2 := (HKW.out.cell (block_lt_cell c1) id).trans c2
        have d3 := (HKW.out.cell (block_lt_cell c1) id).trans c3
        have d4 := (HKW.out.cell (block_lt_cell c1) id).trans c4
        clear c1 c2 c3 c4
        go_wp2
        have hb1 := block_lt HB.out.f.hp
        have hb2 := block_lt HB.out.f.hq
        have hb3 := block_lt HB.out.r.hp
        have n1 := HB.out.n1
        have n2 := HB.out.n2
        have n5 := HB.out.f.ne
        go_region_held3 (fun w' => w'.cell? ⟨wr.heap.size, 0, none⟩ = some (.int .i64 A[k].f) ∧ w'.cell? ⟨wr.heap.size, 1, none⟩ = some (.int .i64 A[k].n) ∧ w'.cell? ⟨wr.heap.size, 2, none⟩ = some (.int .i64 A[k].a) ∧ w'.cell? ⟨wr.heap.size, 3, none⟩ = some (.int .i64 A[k].b))
          (first | exact kept4 HK2.out (heap_alloc_new wr _) (by omega) | exact kept4 HK1.out (heap_alloc_new wr _) (by omega) | go_keep)
          (first | (go_at_call 13; refine (turn_any p q L _ _ _ _ _ (by exact HB.out.f.keep (((Keep.refl (fun _ => False) wr).alloc _).drew) id id)).mono ?_; rintro e w1 ⟨rfl, hRF, hk1⟩; have HRF := Lib.hid hRF; have HK0 := Lib.hid hk1; have HK1 := Lib.hid (hk1.mono (T := fun x => x = p ∨ x = q ∨ x = p') (fun _ _ h => by omega)); clear hRF hk1)
                 | (go_at_call 20; refine (rturn_any w.heap.size p' v L _ _ _ _ _ (by have h1 := HKW.out.size; have h2 := HK1.out.size; simp at h2; omega) (by exact HB.out.r.keep ((((Keep.refl (fun x => x = p ∨ x = q) wr).alloc _).drew).trans HK0.out) (by omega) (fun k h1 h2 => by have := HB.out.n3; have := HB.out.n4; rcases h2 with rfl | rfl <;> contradiction))).mono ?_; rintro e w2 ⟨rfl, hk2, v2, hRR, hv2⟩; have HRR := Lib.hid hRR; have HV2 := Lib.hid hv2; have HK3 := Lib.hid hk2; have HK2 := Lib.hid (HK1.out.trans (hk2.mono (T := fun x => x = p ∨ x = q ∨ x = p') (fun _ _ h => by omega))); clear hRR hk2 hv2))
        go_wp2
        go_roundw
        case rel =>
          have s1 := HKW.out.size
          have s2 := HK1.out.size
          simp only [World.size_drew, World.size_alloc] at s2
          refine ⟨k + 1, by omega, by go_num, v2, turnL L A[k].f A[k].n A[k].a A[k].b, both_next HB.out HRF.out (by omega) HRR.out HK3.out HV2.out, by rw [turnL_length]; exact HL.out, ?_⟩
          have := HB.out.pB; have := HB.out.qB; have := HB.out.rB
          exact ((((HKW.out.mono (T := fun x => x = p ∨ x = q ∨ x = p') (fun _ _ h => h.elim)).alloc _).drew).trans HK2.out).mono (fun k hk h => by omega)
        case measure => simp [intOf]; omega
      · go_wp2
        go_ret3
        exact ⟨p, q, p', v, L, rfl, HB.out, HL.out, HKW.out⟩
    · go_wp2
      all_goals
        go_ret3
        exact ⟨p, q, p', v, L, rfl, HB.out, HL.out, HKW.out⟩

set_option maxHeartbeats 1000000 in
theorem awake_any (w : World) : Calls Try.prog 10 #[] w fun e w' => e = .returned (.bool true) ∧ Keep (fun _ => False) w w' := by
  go_enter Try.func10, Try.ntmps10
  go_wp2_with fail
  refine (new_yes 8 _ (by omega) (by omega)).mono ?_
  rintro e w1 ⟨p, q, rfl, hRF, hp, hq, hk⟩
  have H1 : Hid (RepF w1 p q [0, 0, 0, 0, 0, 0, 0, 0]) := hRF
  have K1 := Lib.hid hk
  clear hRF hk
  go_wp2_with fail
  refine (turn_any p q [0, 0, 0, 0, 0, 0, 0, 0] 2 2 0 2 _ H1.out).mono ?_
  rw [show turnE [0, 0, 0, 0, 0, 0, 0, 0] 2 2 0 2 = 0 by decide, show turnL [0, 0, 0, 0, 0, 0, 0, 0] 2 2 0 2 = [0, 0, 2, 2, 0, 0, 0, 0] by decide]
  rintro e w2 ⟨rfl, hRF, hk⟩
  have H2 := Lib.hid hRF
  have K2 := Lib.hid hk
  clear hRF hk
  go_wp2_with fail
  refine (turn_any p q [0, 0, 2, 2, 0, 0, 0, 0] 3 1 2 4 _ H2.out).mono ?_
  rw [show turnE [0, 0, 2, 2, 0, 0, 0, 0] 3 1 2 4 = 0 by decide, show turnL [0, 0, 2, 2, 0, 0, 0, 0] 3 1 2 4 = [0, 0, 2, 4, 0, 0, 0, 0] by decide]
  rintro e w3 ⟨rfl, hRF, hk⟩
  have H3 := Lib.hid hRF
  have K3 := Lib.hid hk
  clear hRF hk
  go_wp2_with fail
  refine (count_any p q [0, 0, 2, 4, 0, 0, 0, 0] 2 _ H3.out).mono ?_
  rw [show countF [0, 0, 2, 4, 0, 0, 0, 0] 2 = 1 by decide]
  rintro e w4 ⟨rfl, rfl⟩
  go_wp2_with fail
  refine (next_any p q [0, 0, 2, 4, 0, 0, 0, 0] 0 4 _ H3.out (by omega)).mono ?_
  rw [show nextF [0, 0, 2, 4, 0, 0, 0, 0] 0 4 = 3 by decide]
  rintro e w5 ⟨rfl, rfl⟩
  go_wp2_with fail
  refine (turn_any p q [0, 0, 2, 4, 0, 0, 0, 0] 3 1 4 1 _ H3.out).mono ?_
  rw [show turnE [0, 0, 2, 4, 0, 0, 0, 0] 3 1 4 1 = 5 by decide]
  rintro e w6 ⟨rfl, hRF, hk⟩
  have K4 := Lib.hid hk
  clear hRF hk
  go_wp2_with fail
  go_ret
  refine ⟨rfl, ?_⟩
  have K0 := (K1.out.mono (T := fun x => w.heap.size ≤ x) (fun _ _ h => h.elim))
  have hs : ∀ x, x = p ∨ x = q → w.heap.size ≤ x := fun x h => by omega
  exact (((K0.trans (K2.out.mono (fun _ _ h => hs _ h))).trans (K3.out.mono (fun _ _ h => hs _ h))).trans (K4.out.mono (fun _ _ h => hs _ h))).mono (fun k hk h => by omega)

theorem acts_of_rows {w : World} {la : Option Addr} {l : Nat} (h : RowsAt w la l [.int .i64, .int .i64, .int .i64, .int .i64]) : ∃ A : List A4, A.length = l ∧ ActsAt w la A := by
  have h2 : ∀ i, i < l → ∃ x : A4, ∃ b o, la = some ⟨b, o, none⟩ ∧ w.cell? ⟨b, o + i * 4, none⟩ = some (.int .i64 x.f) ∧ w.cell? ⟨b, o + i * 4 + 1, none⟩ = some (.int .i64 x.n) ∧
      w.cell? ⟨b, o + i * 4 + 1 + 1, none⟩ = some (.int .i64 x.a) ∧ w.cell? ⟨b, o + i * 4 + 1 + 1 + 1, none⟩ = some (.int .i64 x.b) := by
    intro i hi
    obtain ⟨b, o, cs, ha, hf, hc⟩ := h i hi
    have hl := hf.length
    obtain ⟨c0, c1, c2, c3, rfl⟩ : ∃ c0 c1 c2 c3, cs = [c0, c1, c2, c3] := by
      rcases cs with _ | ⟨c0, _ | ⟨c1, _ | ⟨c2, _ | ⟨c3, _ | ⟨c4, cs⟩⟩⟩⟩⟩ <;> simp at hl
      exact ⟨c0, c1, c2, c3, rfl⟩
    obtain ⟨⟨f, rfl, _⟩, ⟨n, rfl, _⟩, ⟨a, rfl, _⟩, ⟨b', rfl, _⟩, _⟩ := hf
    have h0 := hc 0 (by decide)
    have h1 := hc 1 (by decide)
    have h2 := hc 2 (by decide)
    have h3 := hc 3 (by decide)
    simp only [List.length_cons, List.length_nil, Nat.reduceAdd, Nat.add_zero, ← Nat.add_assoc, List.getElem?_cons_zero, List.getElem?_cons_succ] at h0 h1 h2 h3
    exact ⟨⟨f, n, a, b'⟩, b, o, ha, h0, h1, h2, h3⟩
  haveI : Inhabited A4 := ⟨⟨0, 0, 0, 0⟩⟩
  obtain ⟨F, hF⟩ := Deep.choose_lt h2
  exact ⟨(List.range l).map F, by simp, fun i hi => by
    have := hF i (by simpa using hi)
    simpa using this⟩

theorem Both.keep {w w' : World} {p q p' : Nat} {v : Value} {B : Nat} {L : List Int} (h : Both w p q p' v B L) (k : Keep (fun _ => False) w w') : Both w' p q p' v B L :=
  ⟨h.f.keep k id id, h.r.keep k id (fun _ _ h => h), h.pB, h.qB, h.rB, h.n1, h.n2, h.n3, h.n4⟩
theorem keep_below {w w' : World} (h : Keep (fun _ => False) w w') : Below w.heap.size w w' := ⟨h.os, h.tape, h.output, h.size, fun k hk => h.block k hk id⟩

end Go.Proofs.Ytajjelfeldofgaa
