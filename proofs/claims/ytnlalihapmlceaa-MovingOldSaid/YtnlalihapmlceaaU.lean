/- MovingApart: the plain law and the walk. -/
import Derived.Test.YtnlalihapmlceaaT
import Derived.Test.YtnlalihapmlceaaP
set_option linter.unusedVariables false
set_option linter.unusedSimpArgs false
namespace Go.Proofs.Ytnlalihapmlceaa
open Go.RowKit Go.Own

theorem find_uniq {T S A : List Int} {k : Int} (h : Good T S A k) {y : Mv} {fr : Int} (hy : y ∈ rows T S A) (hf : y.f = fr ∨ y.t = fr) : findM (rows T S A) fr = some y := by
  unfold findM
  cases hz : (rows T S A).find? (fun x => decide (x.f = fr ∨ x.t = fr)) with
  | none =>
    rw [List.find?_eq_none] at hz
    exact absurd (decide_eq_true hf) (hz y hy)
  | some z =>
    have hzm := List.mem_of_find?_eq_some hz
    have hzp : z.f = fr ∨ z.t = fr := by have h0 := List.find?_some hz; exact of_decide_eq_true h0
    obtain ⟨i, hi, si, rfl⟩ := mem_rows.mp hy
    obtain ⟨j, hj, sj, rfl⟩ := mem_rows.mp hzm
    have h1 := h.ds i j hi hj si sj
    have h2 := h.ds j i hj hi sj si
    have : i = j := by
      apply Classical.byContradiction
      intro hne
      have h3 := h1.2 hne
      simp only [mk] at hf hzp
      omega
    rw [this]
theorem find_mem {T S A : List Int} {y : Mv} {fr : Int} (h : findM (rows T S A) fr = some y) : ∃ i : Nat, i < 1024 ∧ 0 < gi S i ∧ y = mk T S A i ∧ (y.f = fr ∨ y.t = fr) := by
  unfold findM at h
  have hm := List.mem_of_find?_eq_some h
  have hp : y.f = fr ∨ y.t = fr := by have h0 := List.find?_some h; exact of_decide_eq_true h0
  obtain ⟨i, hi, si, rfl⟩ := mem_rows.mp hm
  exact ⟨i, hi, si, rfl, hp⟩

theorem gi_set_if {L : List Int} {f : Int} {i : Nat} {v : Int} (h : 0 ≤ f) (hne : f ≠ i) : gi (L.set f.toNat v) i = gi L i := gi_set_ne (by omega) _

theorem nx_apart {T S A : List Int} {k : Int} (h : Good T S A k) (most K f g : Int) {i : Nat} (hi : i < 1024) (hne : f ≠ i) :
    gi (nxT most K f g T S A) i = gi T i ∧ gi (nxS most K f g T S A) i = gi S i ∧ gi (nxA most K f g T S A) i = gi A i + (if K < 0 ∨ 6 < K then 1 else 0) := by
  have hb : rbeginE T S A most f g = 0 → 0 ≤ f := fun hb => (begin_facts h.ls hb).1.1
  have hc : rcopyE S f = 0 → 0 ≤ f := fun hc => by
    unfold rcopyE at hc
    by_cases e : rmeet S f = 0
    · rw [if_pos e] at hc; omega
    · exact (rmeet_frame e).1
  have he : ∀ b, (rendR T S f b).2 = 0 → 0 ≤ f := fun b hc => by
    unfold rendR at hc
    by_cases e : rmeet S f = 0
    · rw [if_pos e] at hc; simp at hc
    · exact (rmeet_frame e).1
  unfold nxT nxS nxA
  by_cases k1 : K = 0 ∨ K = 1 ∨ K = 2
  · rw [if_pos k1, if_pos k1, if_pos k1, if_neg (by omega), Int.add_zero]
    unfold rbeginT rbeginS rbeginA
    by_cases e : rbeginE T S A most f g = 0
    · rw [if_pos e, if_pos e, if_pos e]; exact ⟨gi_set_if (hb e) hne, gi_set_if (hb e) hne, gi_set_if (hb e) hne⟩
    · rw [if_neg e, if_neg e, if_neg e]; exact ⟨rfl, rfl, rfl⟩
  rw [if_neg k1, if_neg k1, if_neg k1]
  by_cases k2 : K = 3 ∨ K = 4
  · rw [if_pos k2, if_pos k2, if_pos k2, if_neg (by omega), Int.add_zero]
    unfold rcopyS
    by_cases e : rcopyE S f = 0
    · rw [if_pos e]; exact ⟨rfl, gi_set_if (hc e) hne, rfl⟩
    · rw [if_neg e]; exact ⟨rfl, rfl, rfl⟩
  rw [if_neg k2, if_neg k2, if_neg k2]
  by_cases k3 : K = 5
  · rw [if_pos k3, if_pos k3, if_pos k3, if_neg (by omega), Int.add_zero]
    unfold rendT rendS
    by_cases e : (rendR T S f false).2 = 0
    · rw [if_pos e, if_pos e]; exact ⟨gi_set_if (he _ e) hne, gi_set_if (he _ e) hne, rfl⟩
    · rw [if_neg e, if_neg e]; exact ⟨rfl, rfl, rfl⟩
  rw [if_neg k3, if_neg k3, if_neg k3]
  by_cases k4 : K = 6
  · rw [if_pos k4, if_pos k4, if_pos k4, if_neg (by omega), Int.add_zero]
    unfold rendT rendS
    by_cases e : (rendR T S f true).2 = 0
    · rw [if_pos e, if_pos e]; exact ⟨gi_set_if (he _ e) hne, gi_set_if (he _ e) hne, rfl⟩
    · rw [if_neg e, if_neg e]; exact ⟨rfl, rfl, rfl⟩
  rw [if_neg k4, if_neg k4, if_neg k4, if_pos (by omega)]
  exact ⟨rfl, rfl, gi_ones (by rw [h.la]; exact hi)⟩

/-- A move of others stands, but for its age. -/
theorem apart_law {T S A : List Int} {k m : Int} (h : Good T S A k) (most K f g fr : Int) (h' : Good (nxT most K f g T S A) (nxS most K f g T S A) (nxA most K f g T S A) m) {y : Mv} (hy : rfind T S A fr = some y) (hne : f ≠ y.f) :
    findM (rows (nxT most K f g T S A) (nxS most K f g T S A) (nxA most K f g T S A)) fr = some ⟨y.f, y.t, y.s, y.a + (if K < 0 ∨ 6 < K then 1 else 0)⟩ := by
  rw [← find_eq h.ls] at hy
  obtain ⟨i, hi, si, rfl, hp⟩ := find_mem hy
  simp only [mk] at hne hp ⊢
  obtain ⟨e1, e2, e3⟩ := nx_apart h most K f g hi hne
  refine find_uniq h' (mem_rows.mpr ⟨i, hi, by rw [e2]; exact si, ?_⟩) hp
  simp only [mk, e1, e2, e3]

theorem Acts3.keep {w w' : World} {la : Option Addr} {A : List A3} (h : Acts3 w la A) (k : Keep (fun _ => False) w w') : Acts3 w' la A := by
  intro i hi
  obtain ⟨b, o, e, c1, c2, c3⟩ := h i hi
  exact ⟨b, o, e, (k.cell (block_lt_cell c1) id).trans c1, (k.cell (block_lt_cell c2) id).trans c2, (k.cell (block_lt_cell c3) id).trans c3⟩

theorem Two.dlt {w : World} {B p : Nat} {v : Value} {q t s a : Nat} {most : Int} {T S A : List Int} {k : Int} (h : Two w B p v q t s a most T S A k) : ∀ x, DB p v q t s a x → x < w.heap.size ∧ B ≤ x := by
  rintro x ((rfl | e) | e)
  · exact ⟨block_lt h.rm.hp, h.bd.1⟩
  · have := h.rm.hv.lt _ e; exact ⟨this.2, this.1⟩
  · exact h.xlt _ e

theorem cells4k {S : Nat → Prop} {w w' : World} {b e : Nat} {x0 x1 x2 x3 : Value} {z : Nat × Nat} (k : Keep S w w') (hb : w.heap[b]? = some (.cells #[x0, x1, x2, x3] e z)) (hs : ¬ S b) :
    w'.cell? ⟨b, 0, none⟩ = some x0 ∧ w'.cell? ⟨b, 1, none⟩ = some x1 ∧ w'.cell? ⟨b, 2, none⟩ = some x2 ∧ w'.cell? ⟨b, 3, none⟩ = some x3 :=
  cells4 ((k.block b (block_lt hb) hs).trans hb)

set_option maxRecDepth 100000 in
set_option maxHeartbeats 4000000 in
theorem apart_walk (la : Option Addr) (l c : Nat) (K f g fr : Int) (w : World) (hr : RowsAt w la l [.int .i64, .int .i64, .int .i64]) :
    Calls Try.prog 3 #[.slice la l c, .agg #[.int .i64 K, .int .i64 f, .int .i64 g], .int .i64 fr] w fun e w' => e = .returned (.bool true) ∧ Below w.heap.size w w' := by
  obtain ⟨A, rfl, hA⟩ := acts3_of_rows hr
  have H1 := Lib.hid hA
  clear hA hr
  have hN : Hid ((w.alloc (.cells #[.int .i64 K, .int .i64 f, .int .i64 g] 24)).heap[w.heap.size]? = some (.cells #[.int .i64 K, .int .i64 f, .int .i64 g] 24 (0, 0))) := heap_alloc_new w _
  have KW : Hid (Keep (fun _ => False) w (w.alloc (.cells #[.int .i64 K, .int .i64 f, .int .i64 g] 24))) := (Keep.refl _ _).alloc _
  go_enter Try.func3, Try.ntmps3
  go_wp2_with (first | (go_at_call 9; go_loud (refine (made_yes 9 la A c _ (by omega) (by omega) (H1.out.keep KW.out)).mono ?_; rintro e w1 ⟨p, v, q, t, s, a, T, S, G, rfl, hT, hk1⟩; have HT := Lib.hid hT; have K1 := Lib.hid hk1; clear hT hk1)) | (go_at_call 10; go_loud (refine (awake_any _).mono ?_; rintro e w2 ⟨rfl, hk2⟩; have HT2 := Lib.hid (HT.out.keep0 hk2); have K2 := Lib.hid (K1.out.trans hk2); clear hk2)))
  refine (rfind_any fr HT2.out.rx).mono ?_
  unfold mvV
  rintro e w3 ⟨rfl, hk3⟩
  have HT3 := Lib.hid (HT2.out.keep0 hk3)
  have K3 := Lib.hid (K2.out.trans hk3)
  clear hk3
  obtain ⟨x0, x1, x2⟩ := kept3 K3.out hN.out id
  cases hF : rfind T S G fr with
  | none =>
    have HF := Lib.hid hF
    clear hF
    simp only [Option.getD_none, Option.isSome_none, mv0]
    go_wp2
    go_ret
    exact ⟨rfl, ((KW.out.trans K3.out).alloc _).below⟩
  | some y =>
    have HF := Lib.hid hF
    clear hF
    simp only [Option.getD_some, Option.isSome_some]
    have KY : Hid (Keep (fun _ => False) w3 (w3.alloc (.cells #[.int .i64 y.f, .int .i64 y.t, .int .i64 y.s, .int .i64 y.a] 31))) := (Keep.refl _ _).alloc _
    have HY : Hid ((w3.alloc (.cells #[.int .i64 y.f, .int .i64 y.t, .int .i64 y.s, .int .i64 y.a] 31)).heap[w3.heap.size]? = some (.cells #[.int .i64 y.f, .int .i64 y.t, .int .i64 y.s, .int .i64 y.a] 31 (0, 0))) := heap_alloc_new w3 _
    obtain ⟨x0, x1, x2⟩ := kept3 (K3.out.trans KY.out) hN.out id
    obtain ⟨y0, y1, y2, y3⟩ := cells4 HY.out
    by_cases hf : f = y.f
    · have hf' : (f == y.f) = true := by simp [hf]
      clear hf
      go_wp2
      go_ret
      exact ⟨rfl, ((KW.out.trans K3.out).alloc _).below⟩
    · have hf' : (f == y.f) = false := by simp [hf]
      have hne := Lib.hid hf
      have hya : 0 ≤ y.a ∧ y.a ≤ 60 := by
        have h1 := HF.out
        rw [← find_eq HT3.out.gd.ls] at h1
        obtain ⟨i, hi, _, rfl, _⟩ := find_mem h1
        exact HT3.out.gd.ag i hi
      clear hf
      have hw1 : IntKind.i64.wrap (y.a + 1) = y.a + 1 := IntWalk.i64_in _ (by omega)
      have hsz := K3.out.size
      go_wp2_with (go_at_call 12; go_loud (refine (do_any K f g (HT3.out.keep0 KY.out) (by omega) (by have := K3.out.size; have := KY.out.size; omega)).mono ?_; rintro e w5 ⟨rfl, v5, hT5, hk5, -⟩; have HT5 := Lib.hid hT5; have HK5 := Lib.hid hk5; clear hT5 hk5))
      have nb : Hid (¬ DB p v q t s a w.heap.size) := fun h => by have := (HT3.out.dlt _ h).2; simp at this; omega
      have ny : Hid (¬ DB p v q t s a w3.heap.size) := fun h => by have := (HT3.out.dlt _ h).1; omega
      have KB := Lib.hid (DB.fresh (HT3.out.keep0 KY.out) (K3.out.trans KY.out) HK5.out)
      refine (find_any _ p v5 9 _ fr _ HT5.out.rm).mono ?_
      rw [apart_law HT3.out.gd 9 K f g fr HT5.out.gd HF.out hne.out]
      unfold mvV
      rintro e w6 ⟨rfl, hk6⟩
      have K6 := Lib.hid hk6
      clear hk6 x0 x1 x2 y0 y1 y2 y3
      simp only [Option.getD_some, Option.isSome_some]
      by_cases hK : K < 0 ∨ 6 < K
      · rw [if_pos hK]
        have KZ : Hid (Keep (fun _ => False) w6 (w6.alloc (.cells #[.int .i64 y.f, .int .i64 y.t, .int .i64 y.s, .int .i64 (y.a + 1)] 31))) := (Keep.refl _ _).alloc _
        obtain ⟨z0, z1, z2, z3⟩ := cells4 (heap_alloc_new w6 (.cells #[.int .i64 y.f, .int .i64 y.t, .int .i64 y.s, .int .i64 (y.a + 1)] 31))
        obtain ⟨x0, x1, x2⟩ := kept3 ((KB.out.trans K6.out).trans KZ.out) hN.out id
        obtain ⟨y0, y1, y2, y3⟩ := cells4k ((HK5.out.trans (K6.out.mono (fun _ _ h => h.elim))).trans (KZ.out.mono (fun _ _ h => h.elim))) HY.out ny.out
        have fy : (w6.alloc (.cells #[.int .i64 y.f, .int .i64 y.t, .int .i64 y.s, .int .i64 (y.a + 1)] 31)).frozen? ⟨w3.heap.size, 3, none⟩ = false := frozen_block ((((HK5.out.trans (K6.out.mono (fun _ _ h => h.elim))).trans (KZ.out.mono (fun _ _ h => h.elim))).block _ (by simp) ny.out).trans HY.out)
        have hne6 : w3.heap.size ≠ w6.heap.size := by have := HK5.out.size; have := K6.out.size; simp at *; omega
        rcases hK with hK | hK
        all_goals
          go_wp2
          go_ret
          exact ⟨rfl, (((((KW.out.trans KB.out).trans K6.out).trans KZ.out).setNew (by have := hsz; simp at this; omega) _).below)⟩
      · rw [if_neg hK, Int.add_zero]
        have KZ : Hid (Keep (fun _ => False) w6 (w6.alloc (.cells #[.int .i64 y.f, .int .i64 y.t, .int .i64 y.s, .int .i64 y.a] 31))) := (Keep.refl _ _).alloc _
        obtain ⟨z0, z1, z2, z3⟩ := cells4 (heap_alloc_new w6 (.cells #[.int .i64 y.f, .int .i64 y.t, .int .i64 y.s, .int .i64 y.a] 31))
        obtain ⟨x0, x1, x2⟩ := kept3 ((KB.out.trans K6.out).trans KZ.out) hN.out id
        obtain ⟨y0, y1, y2, y3⟩ := cells4k ((HK5.out.trans (K6.out.mono (fun _ _ h => h.elim))).trans (KZ.out.mono (fun _ _ h => h.elim))) HY.out ny.out
        have fy : (w6.alloc (.cells #[.int .i64 y.f, .int .i64 y.t, .int .i64 y.s, .int .i64 y.a] 31)).frozen? ⟨w3.heap.size, 3, none⟩ = false := frozen_block ((((HK5.out.trans (K6.out.mono (fun _ _ h => h.elim))).trans (KZ.out.mono (fun _ _ h => h.elim))).block _ (by simp) ny.out).trans HY.out)
        have hne6 : w3.heap.size ≠ w6.heap.size := by have := HK5.out.size; have := K6.out.size; simp at *; omega
        have q1 : decide (K < 0) = false := by simp; omega
        have q2 : decide (6 < K) = false := by simp; omega
        go_wp2
        go_ret
        exact ⟨rfl, ((((KW.out.trans KB.out).trans K6.out).trans KZ.out).below)⟩

end Go.Proofs.Ytnlalihapmlceaa
