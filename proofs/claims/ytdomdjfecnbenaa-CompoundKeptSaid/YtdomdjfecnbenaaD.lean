/- Compounds: a frame is lost. -/
import Derived.Test.YtdomdjfecnbenaaC
set_option linter.unusedVariables false
set_option linter.unusedSimpArgs false
namespace Go.Proofs.Ytdomdjfecnbenaa
open Go.RowKit Go.Own

section
variable {α : Type} {E : Enc α} {w : World} {B : Nat} {P : Program} {t e : TypeId} {z : Value} {bytes : Nat} {v : Value} {L : List α}
/-- v[:len(v):len(v)]. -/
theorem sl_full (T : ET P t e z E.k bytes) (h : OwnL E w B e v L) :
    ∃ ao : Option Addr, (∀ W, (Instr.slice t v none (some (.int .i64 (L.length : Int))) (some (.int .i64 (L.length : Int)))).run P W = .ok (.slice ao L.length L.length) W) ∧ (ao = none → L.length = 0 ∧ L.length = 0) ∧
      (∀ b, ao = some b → b.block < w.heap.size ∧ v.ownBlock = some b.block ∧ ∀ j x, (E.cs L)[j]? = some x → w.cell? (b.add j) = some x) := by
  obtain ⟨e1, e2⟩ := T.elem
  have hu : P.underlying t = some (.slice (P.elem t)) := by rw [e1]; exact T.ht
  rcases h.any with ⟨rfl, rfl⟩ | ⟨g, cap, rfl, hB, hc, hm, hg⟩
  · refine ⟨none, fun W => ?_, (fun _ => ⟨rfl, rfl⟩), (fun b hb => nomatch hb)⟩
    rw [run_slice_hm W t none 0 0 hu .i64 .i64 _ _ (by omega) (by omega) (by simp), e1, e2]; simp [sliced, Result.andThen]
  · refine ⟨some ⟨g, 0, none⟩, fun W => ?_, (fun h => nomatch h), fun b hb => ?_⟩
    · rw [run_slice_hm W t _ _ _ hu .i64 .i64 _ _ (by omega) (by omega) (by omega), e1, e2]
      simp only [sliced, Result.andThen, Int.toNat_natCast]
      split <;> simp [Addr.add]
    · obtain rfl : (⟨g, 0, none⟩ : Addr) = b := by simpa using hb
      refine ⟨hg, rfl, fun j x hj => World.ownsRow.cells h rfl j x hj⟩
end

set_option maxHeartbeats 400000 in
theorem lose_nil (f : Int) (w : World) : Calls Try.prog 11 #[.pointer none, .int .i64 f] w fun e w' => e = .returned (.tuple #[.bool false, .int .i64 1]) ∧ w = w' := by
  go_enter Try.func11, Try.ntmps11
  go_wp2_with (go_at_call 28; refine (find_nil _ _).mono ?_; rintro e w1 ⟨rfl, rfl⟩)
  go_ret2
  exact ⟨rfl, rfl⟩

set_option maxHeartbeats 400000 in
theorem lose_no (B p : Nat) (v u : Value) (L : List Cp) (Q : List Int) (x : Nat) (hx : x < 1024) (w : World) (hR : RepC w B p v u L Q) (hn : whI L ((x / 8 * 8 : Nat) : Int) = -1) :
    Calls Try.prog 11 #[.pointer (some ⟨p, 0, none⟩), .int .i64 x] w fun e w' => e = .returned (.tuple #[.bool false, .int .i64 6]) ∧ Keep (fun _ => False) w w' := by
  go_enter Try.func11, Try.ntmps11
  go_wp2_with (go_at_call 28; refine (find_no B p v u L Q x hx _ hR hn).mono ?_; rintro e w1 ⟨rfl, hk1⟩)
  go_ret2
  exact ⟨rfl, hk1⟩

theorem bit_q (x : Nat) (hx : x < 1024) (w : World) : Calls Try.prog 29 #[.int .i64 x] w fun e w' => e = .returned (.int .u8 ((2 ^ (x % 8) : Nat) : Int)) ∧ w' = w :=
  (bit_any x hx w).mono fun _ _ h => ⟨h.1, h.2.symm⟩

theorem pow_lt8 (x : Nat) : 2 ^ (x % 8) < 256 := by
  have h8 : x % 8 ≤ 7 := by have := Nat.mod_lt x (show 0 < 8 by decide); omega
  have := Nat.pow_le_pow_right (show 0 < 2 by decide) h8
  omega

set_option maxHeartbeats 1000000 in
theorem lose_dup (B p : Nat) (v u : Value) (L : List Cp) (Q : List Int) (x k : Nat) (hx : x < 1024) (w : World) (hR : RepC w B p v u L Q) (hn : whI L ((x / 8 * 8 : Nat) : Int) = k) (hk : k < L.length) (hd : L[k].b &&& 2 ^ (x % 8) ≠ 0) :
    Calls Try.prog 11 #[.pointer (some ⟨p, 0, none⟩), .int .i64 x] w fun e w' => e = .returned (.tuple #[.bool false, .int .i64 7]) ∧ Keep (fun _ => False) w w' := by
  obtain ⟨g, cap, rfl, hBg, hcap, hgl⟩ := hR.hv.form (by intro e; subst e; simp at hk)
  have hl := hR.hl
  have hbit := pow_lt8 x
  have hlb := hR.hb _ (List.getElem_mem hk)
  have hand := u8_and_nat L[k].b (2 ^ (x % 8)) hlb hbit
  have htest : (((L[k].b &&& 2 ^ (x % 8) : Nat) : Int) != 0) = true := by simpa using hd
  have H1 := Lib.hid hd
  clear hd
  obtain ⟨r, hr⟩ : ∃ r, 2 ^ (x % 8) = r := ⟨_, rfl⟩
  have HRr := Lib.hid hr
  rw [hr] at hand htest
  have HBQ : Hid (∀ W, Calls Try.prog 29 #[.int .i64 x] W fun e w' => e = .returned (.int .u8 (r : Int)) ∧ w' = W) := fun W => by rw [← hr]; exact bit_q x hx W
  go_enter Try.func11, Try.ntmps11
  go_wp2_with (go_at_call 28; refine (find_yes B p _ u L Q x k hx _ hR hn).mono ?_; rintro e w1 ⟨rfl, hk1⟩; have HR1 := Lib.hid (hR.keep0 hk1))
  have hc0 := HR1.out.c0
  obtain ⟨c0, c1⟩ := cp_cells HR1.out.hv hk
  go_quiet ((go_at_call 29; exact Calls.quiet_of_same (HBQ.out _)))
  go_wp2
  go_ret2
  exact ⟨rfl, hk1.drewN _⟩

/-- What a loss makes of the compounds. -/
structure Lost1 (L : List Cp) (Q : List Int) (k x : Nat) (hk : k < L.length) (L' : List Cp) (Q' : List Int) (whole : Bool) : Prop where
  a : (L[k].b ||| 2 ^ (x % 8)) = 255 → whole = true ∧ L' = rmv L k ∧ Q' = lvQ (if L[k].b = 0 then Q ++ [L[k].f] else Q) L[k].f
  b : (L[k].b ||| 2 ^ (x % 8)) ≠ 255 → whole = false ∧ L' = L.set k ⟨L[k].f, L[k].b ||| 2 ^ (x % 8)⟩ ∧ Q' = if L[k].b = 0 then Q ++ [L[k].f] else Q

theorem rmv_set {L : List Cp} {k : Nat} (y : Cp) : rmv (L.set k y) k = rmv L k := by
  unfold rmv; rw [List.take_set_of_le (Nat.le_refl _), List.drop_set_of_lt (by omega)]

theorem or_lt {a b : Nat} (ha : a < 256) (hb : b < 256) : a ||| b < 256 := Nat.or_lt_two_pow (n := 8) (by omega) (by omega)

/-- The store of the lost bits. -/
theorem RepC.mark {w : World} {B p k g cap : Nat} {u : Value} {L : List Cp} {Q : List Int} (h : RepC w B p (.slice (some ⟨g, 0, none⟩) L.length cap) u L Q) (hk : k < L.length) {m : Nat} (hm : m < 256) :
    RepC (w.setCell ⟨g, k * 2 + 1, none⟩ (.int .u8 m)) B p (.slice (some ⟨g, 0, none⟩) L.length cap) u (L.set k ⟨L[k].f, m⟩) Q := by
  have KP := (Keep.refl (fun x => x = g) w).setCell (p := ⟨g, k * 2 + 1, none⟩) (fun _ => rfl) (.int .u8 m)
  have hne := h.nv
  have hnn := h.nn g rfl
  simp [Value.ownBlock] at hne
  have hs := OwnL.set (j := 1) (x := ⟨L[k].f, m⟩) (u := .int .u8 m) h.hv hk (by decide) rfl
  refine ⟨?_, hs, h.hu.keep KP (fun x hx e => hnn (e ▸ hx)), h.nv, h.nu, h.nn, by simpa using h.hl, h.hq, fun y hy => ?_⟩
  · rw [heap_setCell_ne (by simp; omega)]; exact h.hp
  · rcases List.mem_or_eq_of_mem_set hy with hy | rfl
    · exact h.hb y hy
    · exact hm

set_option maxHeartbeats 2000000 in
theorem lose_more (B p : Nat) (v u : Value) (L : List Cp) (Q : List Int) (x k : Nat) (hx : x < 1024) (w : World) (hB : B ≤ w.heap.size) (hR : RepC w B p v u L Q) (hn : whI L ((x / 8 * 8 : Nat) : Int) = k) (hk : k < L.length) (hd : L[k].b &&& 2 ^ (x % 8) = 0)
    (h0 : L[k].b ≠ 0) :
    Calls Try.prog 11 #[.pointer (some ⟨p, 0, none⟩), .int .i64 x] w fun e w' => ∃ v' u' L' Q' whole, e = .returned (.tuple #[.bool whole, .int .i64 0]) ∧ Lost1 L Q k x hk L' Q' whole ∧ RepC w' B p v' u' L' Q' ∧
      Keep (fun y => y = p ∨ v.ownBlock = some y) w w' ∧ (∀ y, v'.ownBlock = some y → v.ownBlock = some y ∨ w.heap.size ≤ y) ∧ (∀ y, u'.ownBlock = some y → u.ownBlock = some y ∨ w.heap.size ≤ y) := by
  obtain ⟨g, cap, rfl, hBg, hcap, hgl⟩ := hR.hv.form (by intro e; subst e; simp at hk)
  have hl := hR.hl
  have hbit := pow_lt8 x
  have hlb := hR.hb _ (List.getElem_mem hk)
  have hand := u8_and_nat L[k].b (2 ^ (x % 8)) hlb hbit
  have hor := u8_or_nat L[k].b (2 ^ (x % 8)) hlb hbit
  have hor8 := or_lt hlb hbit
  have htest : (((L[k].b &&& 2 ^ (x % 8) : Nat) : Int) != 0) = false := by simpa using hd
  have hz : ((L[k].b : Int) == 0) = false := by simpa using h0
  have H1 := Lib.hid hd
  have H0 := Lib.hid h0
  clear hd h0
  obtain ⟨r, hr⟩ : ∃ r, 2 ^ (x % 8) = r := ⟨_, rfl⟩
  have HRr := Lib.hid hr
  rw [hr] at hand htest hor hor8
  have HBQ : Hid (∀ W, Calls Try.prog 29 #[.int .i64 x] W fun e w' => e = .returned (.int .u8 (r : Int)) ∧ w' = W) := fun W => by rw [← hr]; exact bit_q x hx W
  clear hr
  obtain ⟨m, hm⟩ : ∃ m, L[k].b ||| r = m := ⟨_, rfl⟩
  rw [hm] at hor hor8
  have HM := Lib.hid hm
  clear hm
  go_enter Try.func11, Try.ntmps11
  go_wp2_with (go_at_call 28; refine (find_yes B p _ u L Q x k hx _ hR hn).mono ?_; rintro e w1 ⟨rfl, hk1⟩; have HR1 := Lib.hid (hR.keep0 hk1))
  have hc0 := HR1.out.c0
  obtain ⟨c0, c1⟩ := cp_cells HR1.out.hv hk
  go_quiet ((go_at_call 29; exact Calls.quiet_of_same (HBQ.out _)))
  go_wp2
  go_quiet (fail)
  go_wp2
  generalize hw9 : World.drewN (World.drewN w1 _) nq = w9
  have HK9 : Hid (Keep (fun _ => False) w w9) := by rw [← hw9]; exact (by (repeat (first | exact hk1 | exact Keep.refl _ _ | refine Keep.drew ?_ | refine Keep.drewN ?_ _ | refine Keep.alloc ?_ _ | refine Keep.setNew ?_ (by omega) _)); done)
  clear hw9 hc0 c0 c1
  have HR9 := Lib.hid (hR.keep0 HK9.out)
  have hc0 := HR9.out.c0
  obtain ⟨c0, c1⟩ := cp_cells HR9.out.hv hk
  have fz : w9.frozen? ⟨g, k * 2 + 1, none⟩ = false := HR9.out.hv.frozen _
  have HM10 : Hid (RepC (w9.drew.setCell ⟨g, k * 2 + 1, none⟩ (.int .u8 m)) B p (.slice (some ⟨g, 0, none⟩) L.length cap) u (L.set k ⟨L[k].f, m⟩) Q) := (HR9.out.keep0 (by (repeat (first | exact Keep.refl _ _ | exact Keep.refl _ _ | refine Keep.drew ?_ | refine Keep.drewN ?_ _ | refine Keep.alloc ?_ _ | refine Keep.setNew ?_ (by omega) _)); done)).mark hk hor8
  have K10 : Hid (Keep (fun y => y = p ∨ (Value.slice (some ⟨g, 0, none⟩) L.length cap).ownBlock = some y) w (w9.drew.setCell ⟨g, k * 2 + 1, none⟩ (.int .u8 m))) := (HK9.out.drew.mono (fun _ _ h => h.elim)).setCell (fun _ => .inr rfl) _
  refine wp_region_noPanic ?_
  refine wp_region_L (fun w' => w'.cell? ⟨g, k * 2 + 1, none⟩ = some (.int .u8 L[k].b) ∧ w'.frozen? ⟨g, k * 2 + 1, none⟩ = false) 9 (by kernel_rfl) (by (exact ⟨c1, fz⟩)) (fun hS0 => ?_)
  refine wpAnyL_take 0 (v := ?_) rfl (by kernel_rfl) (by kernel_rfl) (by kernel_rfl) (by kernel_rfl) (fun _ _ _ h => h) (Or.inl ⟨by rfl, ?_⟩) (by assumption) ?_
  rotate_left
  · (intro w hSw; (try dsimp only at hSw); go_split_ands; go_simp; try (with_reducible rfl))
  simp only [Act.put, List.setIfInBounds_toArray, List.set_cons_zero, List.set_cons_succ]
  refine wpAnyL_take 1 (v := ?_) rfl (by kernel_rfl) (by kernel_rfl) (by kernel_rfl) (by kernel_rfl) (fun _ _ _ h => h) (Or.inl ⟨by rfl, ?_⟩) (by assumption) ?_
  rotate_left
  · (intro w hSw; (try dsimp only at hSw); go_split_ands; go_simp; try (with_reducible rfl))
  simp only [Act.put, List.setIfInBounds_toArray, List.set_cons_zero, List.set_cons_succ]
  refine wpAnyL_take 2 (v := ?_) rfl (by kernel_rfl) (by kernel_rfl) (by kernel_rfl) (by kernel_rfl) (fun _ _ _ h => h) (Or.inl ⟨by rfl, ?_⟩) (by assumption) ?_
  rotate_left
  · (intro w hSw; (try dsimp only at hSw); go_split_ands; go_simp; try (with_reducible rfl))
  simp only [Act.put, List.setIfInBounds_toArray, List.set_cons_zero, List.set_cons_succ]
  refine wpAnyL_take 3 (v := ?_) rfl (by kernel_rfl) (by kernel_rfl) (by kernel_rfl) (by kernel_rfl) (fun _ _ _ h => h) (Or.inl ⟨by rfl, ?_⟩) (by assumption) ?_
  rotate_left
  · (intro w hSw; (try dsimp only at hSw); go_split_ands; go_simp; try (with_reducible rfl))
  simp only [Act.put, List.setIfInBounds_toArray, List.set_cons_zero, List.set_cons_succ]
  refine wpAnyL_take 4 (v := ?_) rfl (by kernel_rfl) (by kernel_rfl) (by kernel_rfl) (by kernel_rfl) (fun _ _ _ h => h) (Or.inl ⟨by rfl, ?_⟩) (by assumption) ?_
  rotate_left
  · (intro w hSw; (try dsimp only at hSw); go_split_ands; go_simp; try (with_reducible rfl))
  simp only [Act.put, List.setIfInBounds_toArray, List.set_cons_zero, List.set_cons_succ]
  refine wpAnyL_ready (rs := [5]) (by kernel_rfl) (by simp) ?_
  refine AllReadyL.cons rfl (fun K hK => ?_) ?_
  · go_simp
    go_at_call 29
    refine (HBQ.out _).mono ?_
    rintro e w10 ⟨rfl, rfl⟩
    refine hK.out _ _ (.inr (by (exact ⟨c1, fz⟩))) (fun hS5 => ?_)
    replace hS5 := hS5.resolve_left (by decide)
    try simp only [Act.put, List.setIfInBounds_toArray, List.set_cons_zero, List.set_cons_succ]
    refine wpAnyL_take 6 (v := ?_) rfl (by kernel_rfl) (by kernel_rfl) (by kernel_rfl) (by kernel_rfl) (fun _ _ _ h => h) (Or.inl ⟨by rfl, ?_⟩) (by assumption) ?_
    rotate_left
    · (intro w hSw; (try dsimp only at hSw); go_split_ands; go_simp; try (with_reducible rfl))
    simp only [Act.put, List.setIfInBounds_toArray, List.set_cons_zero, List.set_cons_succ]
    refine wpAnyL_ready (rs := [7]) (by kernel_rfl) (by simp) ?_
    refine AllReadyL.cons rfl (fun K hK => ?_) ?_
    · go_simp
      refine hK.out _ _ (.inr (by (exact ⟨c1, fz⟩))) (fun hS7 => ?_)
      replace hS7 := hS7.resolve_left (by decide)
      try simp only [Act.put, List.setIfInBounds_toArray, List.set_cons_zero, List.set_cons_succ]
      refine wpAnyL_take 8 (v := ?_) rfl (by kernel_rfl) (by kernel_rfl) (by kernel_rfl) (by kernel_rfl) (fun _ _ _ h => h) (Or.inl ⟨by rfl, ?_⟩) (by assumption) ?_
      rotate_left
      · (intro w hSw; (try dsimp only at hSw); go_split_ands; go_simp; try (with_reducible rfl))
      simp only [Act.put, List.setIfInBounds_toArray, List.set_cons_zero, List.set_cons_succ]
      refine wpAnyL_ready (rs := [9]) (by kernel_rfl) (by simp) ?_
      refine AllReadyL.cons rfl (fun K hK => ?_) ?_
      · go_simp
        refine hK.out _ _ (.inl rfl) (fun _ => ?_)
        try simp only [Act.put, List.setIfInBounds_toArray, List.set_cons_zero, List.set_cons_succ]
        refine wpAnyL_done (by kernel_rfl) ?_ _
        refine NoPanic.normal ?_
        by_cases h5 : m = 255
        · have h5' : ((m : Int) == 255) = true := by simp [h5]
          have H5 := Lib.hid h5
          clear h5
          go_wp2_with (go_at_call 30; refine (drop_any B p k _ u _ Q _ (by have := K10.out.size; omega) HM10.out (by simpa using hk)).mono ?_; rintro e w11 ⟨rfl, v', u', hR11, hk11, hv11, hu11⟩; have HR11 := Lib.hid hR11; have HK11 := Lib.hid hk11; have HV11 := Lib.hid hv11; have HU11 := Lib.hid hu11; clear hR11 hk11 hv11 hu11)
          go_ret2
          have hsz := K10.out.size
          refine ⟨v', u', rmv L k, lvQ Q L[k].f, true, rfl, ⟨fun _ => ⟨rfl, rfl, by rw [if_neg H0.out]⟩, fun h => absurd (by rw [HRr.out, HM.out, H5.out]) h⟩, ?_, K10.out.trans (HK11.out.mono (fun _ _ h => .inl h)), fun y hy => .inr (by have := HV11.out y hy; omega), fun y hy => ?_⟩
          · have := HR11.out
            rw [rmv_set] at this
            simpa using this
          · rcases HU11.out y hy with h | h
            · exact .inl h
            · exact .inr (by omega)
        · have h5' : ((m : Int) == 255) = false := by simp; omega
          have H5 := Lib.hid h5
          clear h5
          go_wp2
          go_ret2
          exact ⟨_, u, _, Q, .inl ⟨rfl, ⟨fun h => absurd (by rw [HRr.out, HM.out] at h; exact h) H5.out, fun _ => ⟨rfl, by rw [HRr.out, HM.out], by rw [if_neg H0.out]⟩⟩, HM10.out, K10.out, fun y hy => .inl hy, fun y hy => .inl hy⟩⟩
      exact AllReadyL.nil
    exact AllReadyL.nil
  exact AllReadyL.nil

theorem setQ_close {w w2 : World} {B p : Nat} {v u : Value} {L : List Cp} {Q Q' : List Int} {a2 : Option Addr} {l2 c2 n : Nat} {xs : List Value} (hR : RepC w B p v u L Q) (hB : B ≤ w.heap.size) (hq : Q'.length ≤ 200)
    (HK2 : Keep (fun _ => False) w w2) (HO2 : w2.ownsRow w.heap.size 3 inE.k (.slice a2 l2 c2) n xs) (hn : n = Q'.length) (hxs : xs = inE.cs Q') :
    RepC (w2.setCell ⟨p, 1, none⟩ (.slice a2 l2 c2)) B p v (.slice a2 l2 c2) L Q' ∧ Keep (fun x => x = p) w (w2.setCell ⟨p, 1, none⟩ (.slice a2 l2 c2)) ∧
      (∀ x, (Value.slice a2 l2 c2).ownBlock = some x → w.heap.size ≤ x) := by
  subst hn; subst hxs
  have hpl := block_lt hR.hp
  have hO : OwnL inE w2 B 3 (.slice a2 l2 c2) Q' := ownsRow_base HO2 (C := B) (fun x hx => by have := (HO2.lt x hx).1; omega)
  have hlt2 := HO2.lt
  have KP := (Keep.refl (fun x => x = p) w2).setCell (p := ⟨p, 1, none⟩) (fun _ => rfl) (.slice a2 l2 c2)
  refine ⟨⟨?_, ?_, ?_, hR.nv, ?_, ?_, hR.hl, hq, hR.hb⟩, (HK2.mono (T := fun x => x = p) (fun _ _ h => h.elim)).setCell (fun _ => rfl) _, fun x hx => (hlt2 x hx).1⟩
  · rw [heap_setCell_eq ((HK2.block p hpl id).trans hR.hp)]; simp
  · exact (hR.hv.keep HK2 (fun _ _ => id)).keep KP (fun x hx e => hR.nv (e ▸ hx))
  · exact hO.keep KP (fun x hx => by have := (hlt2 x hx).1; omega)
  · intro e; have := (hlt2 p e).1; omega
  · intro x hx e; have := (hlt2 x e).1; have := (hR.hv.lt x hx).2; omega

theorem keep_cellA {S : Nat → Prop} {w w' : World} (h : Keep S w w') {b : Addr} {j : Nat} (hb : b.block < w.heap.size) (hs : ¬ S b.block) : w'.cell? (b.add j) = w.cell? (b.add j) := by
  have e : (b.add j).block = b.block := by unfold Addr.add; split <;> rfl
  exact World.cell?_of_block (w := w) (h.block _ (by rw [e]; exact hb) (by rw [e]; exact hs))
theorem sQ {w W : World} {p g i : Nat} {x v : Value} (h : Keep (fun _ => False) w W) (hp : p < w.heap.size) (hg : g < w.heap.size) (h2 : w.cell? ⟨p, 1, none⟩ = some v) (h1 : w.cell? ⟨g, i, none⟩ = some x) (h3 : w.frozen? ⟨p, 1, none⟩ = false) :
    W.cell? ⟨p, 1, none⟩ = some v ∧ W.cell? ⟨g, i, none⟩ = some x ∧ W.frozen? ⟨p, 1, none⟩ = false := ⟨(h.cell hp id).trans h2, (h.cell hg id).trans h1, (h.frozen hp id).trans h3⟩
theorem one_new {W : World} {e : TypeId} {x : Value} (j : Nat) (y : Value) (h : [x][j]? = some y) : (W.alloc (.cells #[x] e)).cell? ((⟨W.heap.size, 0, none⟩ : Addr).add j) = some y := by
  cases j with
  | zero => simp at h; subst h; simp [Addr.add, cell_block (heap_alloc_new W _)]
  | succ j => simp at h

theorem pow_le8 (x : Nat) : 2 ^ (x % 8) ≤ 128 := by
  have h8 : x % 8 ≤ 7 := by have := Nat.mod_lt x (show 0 < 8 by decide); omega
  exact Nat.pow_le_pow_right (show 0 < 2 by decide) h8

set_option maxHeartbeats 2000000 in
theorem lose_first (B p : Nat) (v u : Value) (L : List Cp) (Q : List Int) (x k : Nat) (hx : x < 1024) (w : World) (hB : B ≤ w.heap.size) (hR : RepC w B p v u L Q) (hn : whI L ((x / 8 * 8 : Nat) : Int) = k) (hk : k < L.length)
    (h0 : L[k].b = 0) (hq : Q.length < 200) :
    Calls Try.prog 11 #[.pointer (some ⟨p, 0, none⟩), .int .i64 x] w fun e w' => ∃ u', e = .returned (.tuple #[.bool false, .int .i64 0]) ∧ RepC w' B p v u' (L.set k ⟨L[k].f, 2 ^ (x % 8)⟩) (Q ++ [L[k].f]) ∧
      Keep (fun y => y = p ∨ v.ownBlock = some y) w w' ∧ (∀ y, u'.ownBlock = some y → w.heap.size ≤ y) := by
  obtain ⟨g, cap, rfl, hBg, hcap, hgl⟩ := hR.hv.form (by intro e; subst e; simp at hk)
  have hl := hR.hl
  have hbit := pow_lt8 x
  have hbit2 := pow_le8 x
  have hand : bits .and .u8 (0 : Int) ((2 ^ (x % 8) : Nat) : Int) = 0 := by
    have := u8_and_nat 0 (2 ^ (x % 8)) (by omega) hbit
    rw [Nat.zero_and] at this
    exact this
  have hor : bits .or .u8 (0 : Int) ((2 ^ (x % 8) : Nat) : Int) = ((2 ^ (x % 8) : Nat) : Int) := by
    have := u8_or_nat 0 (2 ^ (x % 8)) (by omega) hbit
    rw [Nat.zero_or] at this
    exact this
  obtain ⟨r, hr⟩ : ∃ r, 2 ^ (x % 8) = r := ⟨_, rfl⟩
  have HRr := Lib.hid hr
  rw [hr] at hand hor hbit hbit2
  rw [hr]
  have HBQ : Hid (∀ W, Calls Try.prog 29 #[.int .i64 x] W fun e w' => e = .returned (.int .u8 (r : Int)) ∧ w' = W) := fun W => by rw [← hr]; exact bit_q x hx W
  clear hr
  have H0 := Lib.hid h0
  obtain ⟨au, cu, rfl, -⟩ := hR.hu.slice
  have h5' : ((r : Int) == 255) = false := by simp; omega
  go_enter Try.func11, Try.ntmps11
  go_wp2_with (go_at_call 28; refine (find_yes B p _ _ L Q x k hx _ hR hn).mono ?_; rintro e w1 ⟨rfl, hk1⟩; have HR1 := Lib.hid (hR.keep0 hk1))
  have hc0 := HR1.out.c0
  obtain ⟨c0, c1⟩ := cp_cells HR1.out.hv hk
  rw [h0] at c1
  simp only [Int.cast_ofNat_Int] at c1
  clear h0
  go_quiet ((go_at_call 29; exact Calls.quiet_of_same (HBQ.out _)))
  go_wp2
  go_quiet (fail)
  go_wp2
  generalize hw9 : World.drewN (World.drewN w1 _) nq = w9
  have HK9 : Hid (Keep (fun _ => False) w w9) := by rw [← hw9]; exact (by (repeat (first | exact hk1 | exact Keep.refl _ _ | refine Keep.drew ?_ | refine Keep.drewN ?_ _ | refine Keep.alloc ?_ _ | refine Keep.setNew ?_ (by omega) _)); done)
  clear hw9 hc0 c0 c1
  have HR9 := Lib.hid (hR.keep0 HK9.out)
  have hc1 := HR9.out.c1
  obtain ⟨c0, c1⟩ := cp_cells HR9.out.hv hk
  have fz : w9.frozen? ⟨p, 1, none⟩ = false := frozen_block HR9.out.hp
  have hpl := block_lt HR9.out.hp
  have hgl9 := (HR9.out.hv.lt g rfl).2
  obtain ⟨ao, hsl, hao, hcs⟩ := sl_full et46 HR9.out.hu
  have HAO := Lib.hid hao
  have HCS := Lib.hid hcs
  clear hao hcs
  obtain ⟨i0, hi, hz0, hz1, hz2⟩ := info_parts et46.hi
  have HI := Lib.hid hi
  have HZ := Lib.hid (And.intro hz0 (And.intro hz1 hz2))
  clear hi hz0 hz1 hz2
  refine wp_region_noPanic ?_
  refine wp_region_L (fun w' => w'.cell? ⟨p, 1, none⟩ = some (.slice au Q.length cu) ∧ w'.cell? ⟨g, k * 2, none⟩ = some (.int .i64 L[k].f) ∧ w'.frozen? ⟨p, 1, none⟩ = false) 24 (by kernel_rfl) (by (refine sQ ?_ hpl hgl9 hc1 c0 fz; (repeat (first | exact HK68.out | exact Keep.refl _ _ | refine Keep.drew ?_ | refine Keep.drewN ?_ _ | refine Keep.alloc ?_ _ | refine Keep.setNew ?_ (by omega) _)); done)) (fun hS0 => ?_)
  refine wpAnyL_take 0 (v := ?_) rfl (by kernel_rfl) (by kernel_rfl) (by kernel_rfl) (by kernel_rfl) (fun _ _ _ h => h) (Or.inl ⟨by rfl, ?_⟩) (by assumption) ?_
  rotate_left
  · (intro w hSw; (try dsimp only at hSw); go_split_ands; go_simp; try (with_reducible rfl))
  simp only [Act.put, List.setIfInBounds_toArray, List.set_cons_zero, List.set_cons_succ]
  refine wpAnyL_take 1 (v := ?_) rfl (by kernel_rfl) (by kernel_rfl) (by kernel_rfl) (by kernel_rfl) (fun _ _ _ h => h) (Or.inl ⟨by rfl, ?_⟩) (by assumption) ?_
  rotate_left
  · (intro w hSw; (try dsimp only at hSw); go_split_ands; go_simp; try (with_reducible rfl))
  simp only [Act.put, List.setIfInBounds_toArray, List.set_cons_zero, List.set_cons_succ]
  refine wpAnyL_take 2 (v := ?_) rfl (by kernel_rfl) (by kernel_rfl) (by kernel_rfl) (by kernel_rfl) (fun _ _ _ h => h) (Or.inl ⟨by rfl, ?_⟩) (by assumption) ?_
  rotate_left
  · (intro w hSw; (try dsimp only at hSw); go_split_ands; go_simp; try (with_reducible rfl))
  simp only [Act.put, List.setIfInBounds_toArray, List.set_cons_zero, List.set_cons_succ]
  refine wpAnyL_take 3 (v := ?_) rfl (by kernel_rfl) (by kernel_rfl) (by kernel_rfl) (by kernel_rfl) (fun _ _ _ h => h) (Or.inl ⟨by rfl, ?_⟩) (by assumption) ?_
  rotate_left
  · (intro w hSw; (try dsimp only at hSw); go_split_ands; go_simp; try (with_reducible rfl))
  simp only [Act.put, List.setIfInBounds_toArray, List.set_cons_zero, List.set_cons_succ]
  refine wpAnyL_take 4 (v := ?_) rfl (by kernel_rfl) (by kernel_rfl) (by kernel_rfl) (by kernel_rfl) (fun _ _ _ h => h) (Or.inl ⟨by rfl, ?_⟩) (by assumption) ?_
  rotate_left
  · (intro w hSw; (try dsimp only at hSw); go_split_ands; go_simp; try (with_reducible rfl))
  simp only [Act.put, List.setIfInBounds_toArray, List.set_cons_zero, List.set_cons_succ]
  refine wpAnyL_take 5 (v := ?_) rfl (by kernel_rfl) (by kernel_rfl) (by kernel_rfl) (by kernel_rfl) (fun _ _ _ h => h) (Or.inl ⟨by rfl, ?_⟩) (by assumption) ?_
  rotate_left
  · (intro w hSw; (try dsimp only at hSw); go_split_ands; go_simp; try (with_reducible rfl))
  simp only [Act.put, List.setIfInBounds_toArray, List.set_cons_zero, List.set_cons_succ]
  refine wpAnyL_take 6 (v := ?_) rfl (by kernel_rfl) (by kernel_rfl) (by kernel_rfl) (by kernel_rfl) (fun _ _ _ h => h) (Or.inl ⟨by rfl, ?_⟩) (by assumption) ?_
  rotate_left
  · (intro w hSw; (try dsimp only at hSw); go_split_ands; go_simp; try (with_reducible rfl))
  simp only [Act.put, List.setIfInBounds_toArray, List.set_cons_zero, List.set_cons_succ]
  refine wpAnyL_take 7 (v := ?_) rfl (by kernel_rfl) (by kernel_rfl) (by kernel_rfl) (by kernel_rfl) (fun _ _ _ h => h) (Or.inl ⟨by rfl, ?_⟩) (by assumption) ?_
  rotate_left
  · (intro w hSw; (try dsimp only at hSw); go_split_ands; go_simp; try (with_reducible rfl))
  simp only [Act.put, List.setIfInBounds_toArray, List.set_cons_zero, List.set_cons_succ]
  refine wpAnyL_take 8 (v := ?_) rfl (by kernel_rfl) (by kernel_rfl) (by kernel_rfl) (by kernel_rfl) (fun _ _ _ h => h) (Or.inl ⟨by rfl, ?_⟩) (by assumption) ?_
  rotate_left
  · (intro w hSw; (try dsimp only at hSw); go_split_ands; go_simp; try (with_reducible rfl))
  simp only [Act.put, List.setIfInBounds_toArray, List.set_cons_zero, List.set_cons_succ]
  refine wpAnyL_take 9 (v := ?_) rfl (by kernel_rfl) (by kernel_rfl) (by kernel_rfl) (by kernel_rfl) (fun _ _ _ h => h) (Or.inl ⟨by rfl, ?_⟩) (by assumption) ?_
  rotate_left
  · (intro w hSw; (try dsimp only at hSw); go_split_ands; go_simp; try (with_reducible rfl))
  simp only [Act.put, List.setIfInBounds_toArray, List.set_cons_zero, List.set_cons_succ]
  refine wpAnyL_take 10 (v := ?_) rfl (by kernel_rfl) (by kernel_rfl) (by kernel_rfl) (by kernel_rfl) (fun _ _ _ h => h) (Or.inl ⟨by rfl, ?_⟩) (by assumption) ?_
  rotate_left
  · (intro w hSw; (try dsimp only at hSw); go_split_ands; go_simp; try (with_reducible rfl))
  simp only [Act.put, List.setIfInBounds_toArray, List.set_cons_zero, List.set_cons_succ]
  refine wpAnyL_take 11 (v := ?_) rfl (by kernel_rfl) (by kernel_rfl) (by kernel_rfl) (by kernel_rfl) (fun _ _ _ h => h) (Or.inl ⟨by rfl, ?_⟩) (by assumption) ?_
  rotate_left
  · (intro w hSw; (try dsimp only at hSw); go_split_ands; go_simp; try (with_reducible rfl))
  simp only [Act.put, List.setIfInBounds_toArray, List.set_cons_zero, List.set_cons_succ]
  refine wpAnyL_take 12 (v := ?_) rfl (by kernel_rfl) (by kernel_rfl) (by kernel_rfl) (by kernel_rfl) (fun _ _ _ h => h) (Or.inl ⟨by rfl, ?_⟩) (by assumption) ?_
  rotate_left
  · (intro w hSw; (try dsimp only at hSw); go_split_ands; go_simp; try (with_reducible rfl))
  simp only [Act.put, List.setIfInBounds_toArray, List.set_cons_zero, List.set_cons_succ]
  refine wpAnyL_take 13 (v := ?_) rfl (by kernel_rfl) (by kernel_rfl) (by kernel_rfl) (by kernel_rfl) (fun _ _ _ h => h) (Or.inl ⟨by rfl, ?_⟩) (by assumption) ?_
  rotate_left
  · (intro w hSw; (try dsimp only at hSw); go_split_ands; go_simp; try (with_reducible rfl))
  simp only [Act.put, List.setIfInBounds_toArray, List.set_cons_zero, List.set_cons_succ]
  refine wpAnyL_take 14 (v := ?_) rfl (by kernel_rfl) (by kernel_rfl) (by kernel_rfl) (by kernel_rfl) (fun _ _ _ h => h) (Or.inl ⟨by rfl, ?_⟩) (by assumption) ?_
  rotate_left
  · (intro w hSw; (try dsimp only at hSw); go_split_ands; go_simp; try (with_reducible rfl))
  simp only [Act.put, List.setIfInBounds_toArray, List.set_cons_zero, List.set_cons_succ]
  refine wpAnyL_take 15 (v := ?_) rfl (by kernel_rfl) (by kernel_rfl) (by kernel_rfl) (by kernel_rfl) (fun _ _ _ h => h) (Or.inl ⟨by rfl, ?_⟩) (by assumption) ?_
  rotate_left
  · (intro w hSw; (try dsimp only at hSw); go_split_ands; go_simp; try (with_reducible rfl))
  simp only [Act.put, List.setIfInBounds_toArray, List.set_cons_zero, List.set_cons_succ]
  refine wpAnyL_take 16 (v := ?_) rfl (by kernel_rfl) (by kernel_rfl) (by kernel_rfl) (by kernel_rfl) (fun _ _ _ h => h) (Or.inl ⟨by rfl, ?_⟩) (by assumption) ?_
  rotate_left
  · (intro w hSw; (try dsimp only at hSw); go_split_ands; go_simp; try (with_reducible rfl))
  simp only [Act.put, List.setIfInBounds_toArray, List.set_cons_zero, List.set_cons_succ]
  refine wpAnyL_take 17 (v := ?_) rfl (by kernel_rfl) (by kernel_rfl) (by kernel_rfl) (by kernel_rfl) (fun _ _ _ h => h) (Or.inl ⟨by rfl, ?_⟩) (by assumption) ?_
  rotate_left
  · (intro w hSw; (try dsimp only at hSw); go_split_ands; go_simp; try (with_reducible rfl))
  simp only [Act.put, List.setIfInBounds_toArray, List.set_cons_zero, List.set_cons_succ]
  refine wpAnyL_take 18 (v := ?_) rfl (by kernel_rfl) (by kernel_rfl) (by kernel_rfl) (by kernel_rfl) (fun _ _ _ h => h) (Or.inl ⟨by rfl, ?_⟩) (by assumption) ?_
  rotate_left
  · (intro w hSw; (try dsimp only at hSw); go_split_ands; go_simp; try (with_reducible rfl))
  simp only [Act.put, List.setIfInBounds_toArray, List.set_cons_zero, List.set_cons_succ]
  refine wpAnyL_take 19 (v := ?_) rfl (by kernel_rfl) (by kernel_rfl) (by kernel_rfl) (by kernel_rfl) (fun _ _ _ h => h) (Or.inl ⟨by rfl, ?_⟩) (by assumption) ?_
  rotate_left
  · (intro w hSw; (try dsimp only at hSw); go_split_ands; go_simp; try (with_reducible rfl))
  simp only [Act.put, List.setIfInBounds_toArray, List.set_cons_zero, List.set_cons_succ]
  refine wpAnyL_ready (rs := [20]) (by kernel_rfl) (by simp) ?_
  refine AllReadyL.cons rfl (fun K hK => ?_) ?_
  · go_simp
    refine hK.out _ _ (.inr (by (refine sQ ?_ hpl hgl9 hc1 c0 fz; (repeat (first | exact HK68.out | exact Keep.refl _ _ | refine Keep.drew ?_ | refine Keep.drewN ?_ _ | refine Keep.alloc ?_ _ | refine Keep.setNew ?_ (by omega) _)); done))) (fun hS20 => ?_)
    replace hS20 := hS20.resolve_left (by decide)
    try simp only [Act.put, List.setIfInBounds_toArray, List.set_cons_zero, List.set_cons_succ]
    refine wpAnyL_ready (rs := [21]) (by kernel_rfl) (by simp) ?_
    refine AllReadyL.cons rfl (fun K hK => ?_) ?_
    · refine step_append_grows rfl (.tmp 62) (.tmp 67) 46 rfl 3 i0 (.int .i64 0) 1 8 Try.underlying46 HI.out HZ.out.1 HZ.out.2.1 HZ.out.2.2 rfl (by decide) ao Q.length Q.length (inE.cs Q) (by rfl) HAO.out (by rw [inE.cs_length]; rfl) (fun b hb j y hj => (keep_cellA (show Keep (fun _ => False) w9 _ from (by (repeat (first | exact Keep.refl _ _ | exact Keep.refl _ _ | refine Keep.drew ?_ | refine Keep.drewN ?_ _ | refine Keep.alloc ?_ _ | refine Keep.setNew ?_ (by omega) _)); done)) (HCS.out b hb).1 id).trans ((HCS.out b hb).2.2 j y hj)) ⟨w9.heap.size, 0, none⟩ 1 _ [.int .i64 L[k].f] (by rfl) rfl (fun j y hj => one_new (W := w9.drew) j y hj) (by simp [Value.oneCell']) (by omega) (by unfold maxLen; omega) (by omega) ?_
      intro v68 w68 ho68 hg68
      obtain ⟨a68, l68, c68, rfl⟩ := own_slice ho68
      have HK68 : Hid (Keep (fun _ => False) w9 w68) := Keep.grown (by (repeat (first | exact Keep.refl _ _ | exact Keep.refl _ _ | refine Keep.drew ?_ | refine Keep.drewN ?_ _ | refine Keep.alloc ?_ _ | refine Keep.setNew ?_ (by omega) _)); done) hg68 (fun x h1 h2 => by simp at h1)
      have HO68 := Lib.hid (ownsRow_base ho68 (C := w9.heap.size) (fun x hx => by have := (ho68.lt x hx).1; simp at this; omega))
      clear ho68 hg68
      refine hK.out _ _ (.inr (by (refine sQ ?_ hpl hgl9 hc1 c0 fz; (repeat (first | exact HK68.out | exact Keep.refl _ _ | refine Keep.drew ?_ | refine Keep.drewN ?_ _ | refine Keep.alloc ?_ _ | refine Keep.setNew ?_ (by omega) _)); done))) (fun hS21 => ?_)
      replace hS21 := hS21.resolve_left (by decide)
      try simp only [Act.put, List.setIfInBounds_toArray, List.set_cons_zero, List.set_cons_succ]
      refine wpAnyL_ready (rs := [22]) (by kernel_rfl) (by simp) ?_
      refine AllReadyL.cons rfl (fun K hK => ?_) ?_
      · go_simp
        refine hK.out _ _ (.inr (by (refine sQ ?_ hpl hgl9 hc1 c0 fz; (repeat (first | exact HK68.out | exact Keep.refl _ _ | refine Keep.drew ?_ | refine Keep.drewN ?_ _ | refine Keep.alloc ?_ _ | refine Keep.setNew ?_ (by omega) _)); done))) (fun hS22 => ?_)
        replace hS22 := hS22.resolve_left (by decide)
        try simp only [Act.put, List.setIfInBounds_toArray, List.set_cons_zero, List.set_cons_succ]
        refine wpAnyL_take 23 (v := ?_) rfl (by kernel_rfl) (by kernel_rfl) (by kernel_rfl) (by kernel_rfl) (fun _ _ _ h => h) (Or.inl ⟨by rfl, ?_⟩) (by assumption) ?_
        rotate_left
        · (intro w hSw; (try dsimp only at hSw); go_split_ands; go_simp; try (with_reducible rfl))
        simp only [Act.put, List.setIfInBounds_toArray, List.set_cons_zero, List.set_cons_succ]
        refine wpAnyL_ready (rs := [24]) (by kernel_rfl) (by simp) ?_
        refine AllReadyL.cons rfl (fun K hK => ?_) ?_
        · go_simp
          refine hK.out _ _ (.inl rfl) (fun _ => ?_)
          try simp only [Act.put, List.setIfInBounds_toArray, List.set_cons_zero, List.set_cons_succ]
          refine wpAnyL_done (by kernel_rfl) ?_ _
          refine NoPanic.normal ?_
          have hq9 := setQ_close (Q' := Q ++ [L[k].f]) HR9.out (by have := HK9.out.size; omega) (by simp; omega) HK68.out HO68.out (by simp) (by rw [inE.cs_append, inE.cs_one]; first | done | rfl)
          have HQ9 := Lib.hid hq9
          clear hq9 hc1 c0 c1 fz hS0 HO68
          generalize w68.setCell ⟨p, 1, none⟩ (.slice a68 l68 c68) = w10 at HQ9 ⊢
          have hsz := HK9.out.size
          obtain ⟨c0, c1⟩ := cp_cells HQ9.out.1.hv hk
          have c1' : w10.cell? ⟨g, k * 2 + 1, none⟩ = some (.int .u8 0) := by rw [H0.out] at c1; exact c1
          clear c1
          have fz : w10.frozen? ⟨g, k * 2 + 1, none⟩ = false := HQ9.out.1.hv.frozen _
          have HM10 : Hid (RepC (w10.drew.setCell ⟨g, k * 2 + 1, none⟩ (.int .u8 r)) B p (.slice (some ⟨g, 0, none⟩) L.length cap) (.slice a68 l68 c68) (L.set k ⟨L[k].f, r⟩) (Q ++ [L[k].f])) := (HQ9.out.1.keep0 (by (repeat (first | exact Keep.refl _ _ | exact Keep.refl _ _ | refine Keep.drew ?_ | refine Keep.drewN ?_ _ | refine Keep.alloc ?_ _ | refine Keep.setNew ?_ (by omega) _)); done)).mark hk hbit
          have K10 : Hid (Keep (fun y => y = p ∨ (Value.slice (some ⟨g, 0, none⟩) L.length cap).ownBlock = some y) w (w10.drew.setCell ⟨g, k * 2 + 1, none⟩ (.int .u8 r))) := (((HK9.out.mono (fun _ _ h => h.elim)).trans (HQ9.out.2.1.mono (fun _ _ h => .inl h))).drew).setCell (fun _ => .inr rfl) _
          go_wp2
          refine wp_region_noPanic ?_
          refine wp_region_L (fun w' => w'.cell? ⟨g, k * 2 + 1, none⟩ = some (.int .u8 0) ∧ w'.frozen? ⟨g, k * 2 + 1, none⟩ = false) 9 (by kernel_rfl) (by (exact ⟨c1', fz⟩)) (fun hS0 => ?_)
          refine wpAnyL_take 0 (v := ?_) rfl (by kernel_rfl) (by kernel_rfl) (by kernel_rfl) (by kernel_rfl) (fun _ _ _ h => h) (Or.inl ⟨by rfl, ?_⟩) (by assumption) ?_
          rotate_left
          · (intro w hSw; (try dsimp only at hSw); go_split_ands; go_simp; try (with_reducible rfl))
          simp only [Act.put, List.setIfInBounds_toArray, List.set_cons_zero, List.set_cons_succ]
          refine wpAnyL_take 1 (v := ?_) rfl (by kernel_rfl) (by kernel_rfl) (by kernel_rfl) (by kernel_rfl) (fun _ _ _ h => h) (Or.inl ⟨by rfl, ?_⟩) (by assumption) ?_
          rotate_left
          · (intro w hSw; (try dsimp only at hSw); go_split_ands; go_simp; try (with_reducible rfl))
          simp only [Act.put, List.setIfInBounds_toArray, List.set_cons_zero, List.set_cons_succ]
          refine wpAnyL_take 2 (v := ?_) rfl (by kernel_rfl) (by kernel_rfl) (by kernel_rfl) (by kernel_rfl) (fun _ _ _ h => h) (Or.inl ⟨by rfl, ?_⟩) (by assumption) ?_
          rotate_left
          · (intro w hSw; (try dsimp only at hSw); go_split_ands; go_simp; try (with_reducible rfl))
          simp only [Act.put, List.setIfInBounds_toArray, List.set_cons_zero, List.set_cons_succ]
          refine wpAnyL_take 3 (v := ?_) rfl (by kernel_rfl) (by kernel_rfl) (by kernel_rfl) (by kernel_rfl) (fun _ _ _ h => h) (Or.inl ⟨by rfl, ?_⟩) (by assumption) ?_
          rotate_left
          · (intro w hSw; (try dsimp only at hSw); go_split_ands; go_simp; try (with_reducible rfl))
          simp only [Act.put, List.setIfInBounds_toArray, List.set_cons_zero, List.set_cons_succ]
          refine wpAnyL_take 4 (v := ?_) rfl (by kernel_rfl) (by kernel_rfl) (by kernel_rfl) (by kernel_rfl) (fun _ _ _ h => h) (Or.inl ⟨by rfl, ?_⟩) (by assumption) ?_
          rotate_left
          · (intro w hSw; (try dsimp only at hSw); go_split_ands; go_simp; try (with_reducible rfl))
          simp only [Act.put, List.setIfInBounds_toArray, List.set_cons_zero, List.set_cons_succ]
          refine wpAnyL_ready (rs := [5]) (by kernel_rfl) (by simp) ?_
          refine AllReadyL.cons rfl (fun K hK => ?_) ?_
          · go_simp
            go_at_call 29
            refine (HBQ.out _).mono ?_
            rintro e w11 ⟨rfl, rfl⟩
            refine hK.out _ _ (.inr (by (exact ⟨c1', fz⟩))) (fun hS5 => ?_)
            replace hS5 := hS5.resolve_left (by decide)
            try simp only [Act.put, List.setIfInBounds_toArray, List.set_cons_zero, List.set_cons_succ]
            refine wpAnyL_take 6 (v := ?_) rfl (by kernel_rfl) (by kernel_rfl) (by kernel_rfl) (by kernel_rfl) (fun _ _ _ h => h) (Or.inl ⟨by rfl, ?_⟩) (by assumption) ?_
            rotate_left
            · (intro w hSw; (try dsimp only at hSw); go_split_ands; go_simp; try (with_reducible rfl))
            simp only [Act.put, List.setIfInBounds_toArray, List.set_cons_zero, List.set_cons_succ]
            refine wpAnyL_ready (rs := [7]) (by kernel_rfl) (by simp) ?_
            refine AllReadyL.cons rfl (fun K hK => ?_) ?_
            · go_simp
              refine hK.out _ _ (.inr (by (exact ⟨c1', fz⟩))) (fun hS7 => ?_)
              replace hS7 := hS7.resolve_left (by decide)
              try simp only [Act.put, List.setIfInBounds_toArray, List.set_cons_zero, List.set_cons_succ]
              refine wpAnyL_take 8 (v := ?_) rfl (by kernel_rfl) (by kernel_rfl) (by kernel_rfl) (by kernel_rfl) (fun _ _ _ h => h) (Or.inl ⟨by rfl, ?_⟩) (by assumption) ?_
              rotate_left
              · (intro w hSw; (try dsimp only at hSw); go_split_ands; go_simp; try (with_reducible rfl))
              simp only [Act.put, List.setIfInBounds_toArray, List.set_cons_zero, List.set_cons_succ]
              refine wpAnyL_ready (rs := [9]) (by kernel_rfl) (by simp) ?_
              refine AllReadyL.cons rfl (fun K hK => ?_) ?_
              · go_simp
                refine hK.out _ _ (.inl rfl) (fun _ => ?_)
                try simp only [Act.put, List.setIfInBounds_toArray, List.set_cons_zero, List.set_cons_succ]
                refine wpAnyL_done (by kernel_rfl) ?_ _
                refine NoPanic.normal ?_
                go_wp2
                go_ret2
                first | exact ⟨rfl, _, HM10.out, K10.out, fun y hy => by have := HQ9.out.2.2 y hy; omega⟩ | exact ⟨_, rfl, HM10.out, K10.out, fun y hy => by have := HQ9.out.2.2 y hy; omega⟩
              exact AllReadyL.nil
            exact AllReadyL.nil
          exact AllReadyL.nil
        exact AllReadyL.nil
      exact AllReadyL.nil
    exact AllReadyL.nil
  exact AllReadyL.nil

end Go.Proofs.Ytdomdjfecnbenaa
