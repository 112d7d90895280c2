/- Buddy: awake; BuddyNone. -/
import Derived.Test.YtcbkfilhgeeebaaU
set_option linter.unusedVariables false
set_option linter.unusedSimpArgs false
namespace Go.Proofs.Ytcbkfilhgeeebaa
open Go.RowKit Go.Own

/-- The object, its rows wherever. -/
def BFs (w : World) (B p n : Nat) (F : Nat → Bool) : Prop := BF w B p n F (fun x => B ≤ x ∧ x < w.heap.size)
theorem BF.std {w : World} {B p n : Nat} {F : Nat → Bool} {G : Nat → Prop} (h : BF w B p n F G) : BFs w B p n F := by
  obtain ⟨S, ⟨V, h1, h2⟩, h3⟩ := h
  exact ⟨S, ⟨V, h1, fun j hj x hx => (h1.hv j hj).lt x hx⟩, h3⟩
theorem BFs.keep0 {w w' : World} {B p n : Nat} {F : Nat → Bool} (h : BFs w B p n F) (k : Keep (fun _ => False) w w') : BFs w' B p n F := (BF.keep0 h k).std
theorem took_std {w w' : World} {B p n : Nat} {F' : Nat → Bool} (h : TookC w w' B p n F' (fun x => B ≤ x ∧ x < w.heap.size)) : BFs w' B p n F' ∧ Keep (fun z => z = p ∨ B ≤ z) w w' := ⟨h.1.std, h.2.mono fun z _ hz => hz.imp id And.left⟩

theorem sub16 : ∀ k a, mx (subB (upTo 16) 0 0) k a ↔ (k = 0 ∧ a = 1) ∨ (k = 1 ∧ a = 2) ∨ (k = 2 ∧ a = 4) ∨ (k = 3 ∧ a = 8) := by
  have hF : ∀ i, subB (upTo 16) 0 0 i = true ↔ 1 ≤ i ∧ i < 16 := fun i => by
    rw [subB_iff]; unfold upTo; rw [decide_eq_true_eq]; omega
  have h4 : ∀ k a, ((k = 0 ∧ a = 1) ∨ (k = 1 ∧ a = 2) ∨ (k = 2 ∧ a = 4) ∨ (k = 3 ∧ a = 8)) → mx (subB (upTo 16) 0 0) k a := by
    rintro k a (⟨rfl, rfl⟩ | ⟨rfl, rfl⟩ | ⟨rfl, rfl⟩ | ⟨rfl, rfl⟩)
    all_goals
      refine ⟨by decide, by decide, fun i h1 h2 => by rw [hF]; omega, fun ⟨_, hb⟩ => ?_⟩
      have := hb 0 (by decide) (by decide)
      rw [hF] at this; omega
  intro k a
  refine ⟨fun hm => ?_, h4 k a⟩
  have h1 := (hF a).mp (hm.2.2.1 a (Nat.le_refl _) (by have := p2 k; omega))
  have hc : (∃ q b, ((q = 0 ∧ b = 1) ∨ (q = 1 ∧ b = 2) ∨ (q = 2 ∧ b = 4) ∨ (q = 3 ∧ b = 8)) ∧ b ≤ a ∧ a < b + 2 ^ q) := by
    by_cases e1 : a < 2
    · exact ⟨0, 1, .inl ⟨rfl, rfl⟩, by omega, by omega⟩
    by_cases e2 : a < 4
    · exact ⟨1, 2, .inr (.inl ⟨rfl, rfl⟩), by omega, by omega⟩
    by_cases e3 : a < 8
    · exact ⟨2, 4, .inr (.inr (.inl ⟨rfl, rfl⟩)), by omega, by omega⟩
    · exact ⟨3, 8, .inr (.inr (.inr ⟨rfl, rfl⟩)), by omega, by omega⟩
  obtain ⟨q, b, hqb, h2, h3⟩ := hc
  obtain ⟨e1, e2⟩ := mx_uniq hm (h4 q b hqb) (Nat.le_refl _) (by have := p2 k; omega) h2 h3
  rw [e1, e2]; exact hqb
theorem up16 : ∀ k a, mx (upTo 16) k a ↔ k = 4 ∧ a = 0 := by
  have hF : ∀ i, upTo 16 i = true ↔ i < 16 := fun i => by unfold upTo; rw [decide_eq_true_eq]
  have h4 : mx (upTo 16) 4 0 := by
    refine ⟨by decide, by decide, fun i h1 h2 => by rw [hF]; omega, fun ⟨_, hb⟩ => ?_⟩
    have := hb 16 (by decide) (by decide)
    rw [hF] at this; omega
  intro k a
  refine ⟨fun hm => ?_, ?_⟩
  · have h1 := (hF a).mp (hm.2.2.1 a (Nat.le_refl _) (by have := p2 k; omega))
    exact mx_uniq hm h4 (Nat.le_refl _) (by have := p2 k; omega) (Nat.zero_le _) (by omega)
  · rintro ⟨rfl, rfl⟩; exact h4
theorem isBl_len {F : Nat → Bool} {D : List Bk} (h : IsBl F D) (E : List Bk) (hs : E.Pairwise (fun x y => x.f < y.f)) (hm : ∀ x, x ∈ E ↔ ∃ k a : Nat, mx F k a ∧ x = ⟨(a : Int), (k : Int)⟩) : D = E :=
  isBl_uniq (F := F) h.1 hs fun x => by rw [h.2 x, hm x]
theorem bl_sub16 {D : List Bk} (h : IsBl (subB (upTo 16) 0 0) D) : D.length = 4 := by
  rw [isBl_len h [⟨1, 0⟩, ⟨2, 1⟩, ⟨4, 2⟩, ⟨8, 3⟩] (by simp) (fun x => by
    constructor
    · intro hx
      simp only [List.mem_cons, List.not_mem_nil, or_false] at hx
      rcases hx with rfl | rfl | rfl | rfl
      · exact ⟨0, 1, (sub16 _ _).mpr (.inl ⟨rfl, rfl⟩), rfl⟩
      · exact ⟨1, 2, (sub16 _ _).mpr (.inr (.inl ⟨rfl, rfl⟩)), rfl⟩
      · exact ⟨2, 4, (sub16 _ _).mpr (.inr (.inr (.inl ⟨rfl, rfl⟩))), rfl⟩
      · exact ⟨3, 8, (sub16 _ _).mpr (.inr (.inr (.inr ⟨rfl, rfl⟩))), rfl⟩
    · rintro ⟨k, a, hm, rfl⟩
      rcases (sub16 k a).mp hm with ⟨rfl, rfl⟩ | ⟨rfl, rfl⟩ | ⟨rfl, rfl⟩ | ⟨rfl, rfl⟩ <;> simp)]
  rfl
theorem bl_up16 {D : List Bk} (h : IsBl (upTo 16) D) : D.length = 1 := by
  rw [isBl_len h [⟨0, 4⟩] (by simp) (fun x => by
    constructor
    · intro hx
      simp only [List.mem_cons, List.not_mem_nil, or_false] at hx
      subst hx
      exact ⟨4, 0, (up16 _ _).mpr ⟨rfl, rfl⟩, rfl⟩
    · rintro ⟨k, a, hm, rfl⟩
      obtain ⟨rfl, rfl⟩ := (up16 k a).mp hm
      simp)]
  rfl
theorem add16 : addB (subB (upTo 16) 0 0) 0 0 = upTo 16 := add_sub fun i h1 h2 => by simp [upTo]; simp at h2; omega

set_option maxRecDepth 100000 in
set_option maxHeartbeats 2000000 in
theorem awake_any (w : World) : Calls Try.prog 12 #[] w fun e w' => e = .returned (.bool true) ∧ Keep (fun _ => False) w w' := by
  go_enter Try.func12, Try.ntmps12
  go_wp2_with fail
  refine (new_any 16 w.heap.size (by omega) (by omega) _ (Nat.le_refl _)).mono ?_
  rintro e w1 ⟨p, rfl, hb, hp, hk⟩
  have HB1 := Lib.hid hb.std
  have HK1 := Lib.hid hk
  have HP := Lib.hid hp
  clear hb hk hp
  go_wp2_with fail
  refine (take_any (o := 0) (Nat.le_trans HK1.out.size (Nat.le_refl _)) HB1.out (fun x hx => hx.2) (by omega)).mono ?_
  rintro e w2 (⟨k, a, -, hm, -, -, rfl, ht⟩ | ⟨hno, -⟩)
  · obtain ⟨rfl, rfl⟩ := (up16 k a).mp hm
    obtain ⟨t1, t2⟩ := took_std ht
    have HB2 := Lib.hid t1
    have HK2 : Hid (Keep (fun z => w.heap.size ≤ z) w w2) := (HK1.out.mono (fun _ _ h => h.elim)).trans (t2.mono fun z _ hz => hz.elim (fun e => by subst e; exact HP.out) id)
    clear hm ht t1 t2
    go_wp2_with fail
    refine (blocks_any HB2.out).mono ?_
    rintro e w3 ⟨v3, D3, rfl, ho3, hbl, -, hk3⟩
    have hl4 := bl_sub16 hbl
    obtain ⟨a3, c3, rfl, -⟩ := ho3.slice
    rw [hl4]
    have HB3 := Lib.hid (HB2.out.keep0 hk3)
    have HK3 : Hid (Keep (fun z => w.heap.size ≤ z) w w3) := HK2.out.trans (hk3.mono (fun _ _ h => h.elim))
    clear ho3 hbl hk3 hl4
    go_wp2_with fail
    refine (give_ok (f := 0) (o := 0) HK3.out.size HB3.out (fun x hx => hx.2) (by decide) (by omega) (by decide) (by decide) (fun i h1 h2 => by rw [← Bool.not_eq_true, subB_iff]; exact fun h => h.2 ⟨h1, h2⟩)).mono ?_
    rintro e w4 ⟨rfl, ht4⟩
    rw [add16] at ht4
    obtain ⟨t1, t2⟩ := took_std ht4
    have HB4 := Lib.hid t1
    have HK4 : Hid (Keep (fun z => w.heap.size ≤ z) w w4) := HK3.out.trans (t2.mono fun z _ hz => hz.elim (fun e => by subst e; exact HP.out) id)
    clear ht4 t1 t2
    go_wp2_with fail
    refine (blocks_any HB4.out).mono ?_
    rintro e w5 ⟨v5, D5, rfl, ho5, hbl, -, hk5⟩
    have hl1 := bl_up16 hbl
    obtain ⟨a5, c5, rfl, -⟩ := ho5.slice
    rw [hl1]
    have HB5 := Lib.hid (HB4.out.keep0 hk5)
    have HK5 : Hid (Keep (fun z => w.heap.size ≤ z) w w5) := HK4.out.trans (hk5.mono (fun _ _ h => h.elim))
    clear ho5 hbl hk5 hl1
    go_wp2_with fail
    refine (great_any HB5.out).mono ?_
    rintro e w6 ⟨⟨k, b, hm, -, rfl⟩ | ⟨hno, -⟩, hk6⟩
    · obtain ⟨rfl, -⟩ := (up16 k b).mp hm
      go_wp2
      go_ret
      exact ⟨rfl, (HK5.out.trans (hk6.mono (fun _ _ h => h.elim))).fresh (fun _ h => h) (Nat.le_refl _)⟩
    · exact absurd ((up16 4 0).mpr ⟨rfl, rfl⟩) (hno 4 0)
  · exact absurd ((up16 4 0).mpr ⟨rfl, rfl⟩) (hno 4 0 (Nat.zero_le _))

theorem cells_fo {w W : World} {b e : Nat} {x0 x1 x2 x3 x4 : Value} {z : Nat × Nat} (h : w.heap[b]? = some (.cells #[x0, x1, x2, x3, x4] e z)) (K : Keep (fun _ => False) w W) : W.cell? ⟨b, 1, none⟩ = some x1 ∧ W.cell? ⟨b, 2, none⟩ = some x2 := by
  have h2 := (K.block b (block_lt h) id).trans h
  simp [cell_block h2]
set_option maxRecDepth 100000 in
set_option maxHeartbeats 2000000 in
theorem none_walk (k f o n : Int) (h : Bool) (w : World) : Calls Try.prog 9 #[.agg #[.int .i64 k, .int .i64 f, .int .i64 o, .int .i64 n, .bool h]] w fun e w' => e = .returned (.bool true) ∧ Below w.heap.size w w' := by
  have KA : Hid (Keep (fun _ => False) w (w.alloc (.cells #[.int .i64 k, .int .i64 f, .int .i64 o, .int .i64 n, .bool h] 42))) := (Keep.refl _ _).alloc _
  have hb := heap_alloc_new w (.cells #[.int .i64 k, .int .i64 f, .int .i64 o, .int .i64 n, .bool h] 42)
  have HCC := Lib.hid (fun W (K : Keep (fun _ => False) (w.alloc (.cells #[.int .i64 k, .int .i64 f, .int .i64 o, .int .i64 n, .bool h] 42)) W) => cells_fo hb K)
  go_enter Try.func9, Try.ntmps9
  obtain ⟨c1, c2⟩ := HCC.out _ (Keep.refl _ _)
  go_wp2_with (first | (go_at_call 13; refine (take_nil o _).mono ?_; rintro e w1 ⟨rfl, hk1⟩; have HK1 : Hid (Keep (fun _ => False) (w.alloc (.cells #[.int .i64 k, .int .i64 f, .int .i64 o, .int .i64 n, .bool h] 42)) w1) := (Keep.trans (by (repeat (first | exact Keep.refl _ _ | exact Keep.refl _ _ | refine Keep.drew ?_ | refine Keep.drewN ?_ _ | refine Keep.alloc ?_ _ | refine Keep.setNew ?_ (by omega) _)); done) hk1); obtain ⟨x1, y1⟩ := HCC.out _ HK1.out; clear hk1) | (go_at_call 12; refine (awake_any _).mono ?_; rintro e w2 ⟨rfl, hk2⟩; have HK2 : Hid (Keep (fun _ => False) (w.alloc (.cells #[.int .i64 k, .int .i64 f, .int .i64 o, .int .i64 n, .bool h] 42)) w2) := (Keep.trans (by (repeat (first | exact HK1.out | exact Keep.refl _ _ | refine Keep.drew ?_ | refine Keep.drewN ?_ _ | refine Keep.alloc ?_ _ | refine Keep.setNew ?_ (by omega) _)); done) hk2); obtain ⟨x2, y2⟩ := HCC.out _ HK2.out; clear hk2) | (go_at_call 19; refine (takeAt_nil f o _).mono ?_; rintro e w3 ⟨rfl, hk3⟩; have HK3 : Hid (Keep (fun _ => False) (w.alloc (.cells #[.int .i64 k, .int .i64 f, .int .i64 o, .int .i64 n, .bool h] 42)) w3) := (Keep.trans (by (repeat (first | exact HK2.out | exact Keep.refl _ _ | refine Keep.drew ?_ | refine Keep.drewN ?_ _ | refine Keep.alloc ?_ _ | refine Keep.setNew ?_ (by omega) _)); done) hk3); obtain ⟨x3, y3⟩ := HCC.out _ HK3.out; clear hk3) | (go_at_call 22; refine (give_nil f o _).mono ?_; rintro e w4 ⟨rfl, hk4⟩; have HK4 : Hid (Keep (fun _ => False) (w.alloc (.cells #[.int .i64 k, .int .i64 f, .int .i64 o, .int .i64 n, .bool h] 42)) w4) := (Keep.trans (by (repeat (first | exact HK3.out | exact Keep.refl _ _ | refine Keep.drew ?_ | refine Keep.drewN ?_ _ | refine Keep.alloc ?_ _ | refine Keep.setNew ?_ (by omega) _)); done) hk4); obtain ⟨x4, y4⟩ := HCC.out _ HK4.out; clear hk4) | (go_at_call 23; refine (free_nil _).mono ?_; rintro e w5 ⟨rfl, hk5⟩; have HK5 : Hid (Keep (fun _ => False) (w.alloc (.cells #[.int .i64 k, .int .i64 f, .int .i64 o, .int .i64 n, .bool h] 42)) w5) := (Keep.trans (by (repeat (first | exact HK4.out | exact Keep.refl _ _ | refine Keep.drew ?_ | refine Keep.drewN ?_ _ | refine Keep.alloc ?_ _ | refine Keep.setNew ?_ (by omega) _)); done) hk5); obtain ⟨x5, y5⟩ := HCC.out _ HK5.out; clear hk5) | (go_at_call 25; refine (great_nil _).mono ?_; rintro e w6 ⟨rfl, hk6⟩; have HK6 : Hid (Keep (fun _ => False) (w.alloc (.cells #[.int .i64 k, .int .i64 f, .int .i64 o, .int .i64 n, .bool h] 42)) w6) := (Keep.trans (by (repeat (first | exact HK5.out | exact Keep.refl _ _ | refine Keep.drew ?_ | refine Keep.drewN ?_ _ | refine Keep.alloc ?_ _ | refine Keep.setNew ?_ (by omega) _)); done) hk6); obtain ⟨x6, y6⟩ := HCC.out _ HK6.out; clear hk6) | (go_at_call 18; refine (blocks_nil _).mono ?_; rintro e w7 ⟨rfl, hk7⟩; have HK7 : Hid (Keep (fun _ => False) (w.alloc (.cells #[.int .i64 k, .int .i64 f, .int .i64 o, .int .i64 n, .bool h] 42)) w7) := (Keep.trans (by (repeat (first | exact HK6.out | exact Keep.refl _ _ | refine Keep.drew ?_ | refine Keep.drewN ?_ _ | refine Keep.alloc ?_ _ | refine Keep.setNew ?_ (by omega) _)); done) hk7); obtain ⟨x7, y7⟩ := HCC.out _ HK7.out; clear hk7) | (go_at_call 15; refine (has_nil f _).mono ?_; rintro e w8 ⟨rfl, hk8⟩; have HK8 : Hid (Keep (fun _ => False) (w.alloc (.cells #[.int .i64 k, .int .i64 f, .int .i64 o, .int .i64 n, .bool h] 42)) w8) := (Keep.trans (by (repeat (first | exact HK7.out | exact Keep.refl _ _ | refine Keep.drew ?_ | refine Keep.drewN ?_ _ | refine Keep.alloc ?_ _ | refine Keep.setNew ?_ (by omega) _)); done) hk8); obtain ⟨x8, y8⟩ := HCC.out _ HK8.out; clear hk8))
  go_ret
  exact ⟨rfl, (KA.out.trans HK8.out).below⟩

end Go.Proofs.Ytcbkfilhgeeebaa
