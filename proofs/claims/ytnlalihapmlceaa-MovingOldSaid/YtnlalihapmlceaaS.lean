/- Moves: both, through one call. -/
import Derived.Test.YtnlalihapmlceaaR
import Derived.Test.YtnlalihapmlceaaK
set_option linter.unusedVariables false
set_option linter.unusedSimpArgs false
namespace Go.Proofs.Ytnlalihapmlceaa
open Go.RowKit Go.Own

/-- The program's moves at p and the reference's at q say the same. -/
structure Two (w : World) (B p : Nat) (v : Value) (q t s a : Nat) (most : Int) (T S A : List Int) (k : Int) : Prop where
  rm : RepM w B p v most (rows T S A)
  rx : RepX w q t s a most T S A
  gd : Good T S A k
  ap : ∀ x, (x = p ∨ v.ownBlock = some x) → ¬ XB q t s a x
  bd : B ≤ p ∧ B ≤ q ∧ B ≤ t ∧ B ≤ s ∧ B ≤ a
  k0 : 0 ≤ k ∧ k ≤ 1000
  ln : (rlenN S 1024 : Int) ≤ most

def DB (p : Nat) (v : Value) (q t s a : Nat) : Nat → Prop := fun x => (x = p ∨ v.ownBlock = some x) ∨ XB q t s a x

theorem Two.keep0 {w w' : World} {B p : Nat} {v : Value} {q t s a : Nat} {most : Int} {T S A : List Int} {k : Int} (h : Two w B p v q t s a most T S A k) (hk : Keep (fun _ => False) w w') : Two w' B p v q t s a most T S A k :=
  ⟨h.rm.keep hk id (fun _ _ => id), h.rx.keep0 hk, h.gd, h.ap, h.bd, h.k0, h.ln⟩

theorem Two.xlt {w : World} {B p : Nat} {v : Value} {q t s a : Nat} {most : Int} {T S A : List Int} {k : Int} (h : Two w B p v q t s a most T S A k) : ∀ x, XB q t s a x → x < w.heap.size ∧ B ≤ x := by
  obtain ⟨b1, b2, b3, b4, b5⟩ := h.bd
  rintro x (rfl | rfl | rfl | rfl)
  · exact ⟨block_lt h.rx.hp, b2⟩
  · exact ⟨block_lt h.rx.ht, b3⟩
  · exact ⟨block_lt h.rx.hs, b4⟩
  · exact ⟨block_lt h.rx.ha, b5⟩

/-- The reference behind a call of the program. -/
theorem Two.rx4 {w w0 w4 : World} {B p : Nat} {v : Value} {q t s a : Nat} {most : Int} {T S A : List Int} {k : Int} (h : Two w B p v q t s a most T S A k) (k0 : Keep (fun _ => False) w w0) (k1 : Keep (fun x => x = p ∨ v.ownBlock = some x) w0 w4) : RepX w4 q t s a most T S A :=
  (h.rx.keep0 k0).keep k1 ⟨fun e => h.ap _ e (.inl rfl), fun e => h.ap _ e (.inr (.inl rfl)), fun e => h.ap _ e (.inr (.inr (.inl rfl))), fun e => h.ap _ e (.inr (.inr (.inr rfl)))⟩

theorem Two.next {w w0 w4 w5 : World} {B p : Nat} {v v' : Value} {q t s a : Nat} {most : Int} {T S A T' S' A' : List Int} {L' : List Mv} {k m : Int} (h : Two w B p v q t s a most T S A k)
    (k0 : Keep (fun _ => False) w w0) (hR : RepM w4 B p v' most L') (k1 : Keep (fun x => x = p ∨ v.ownBlock = some x) w0 w4) (hv : ∀ x, v'.ownBlock = some x → v.ownBlock = some x ∨ w0.heap.size ≤ x)
    (hX : RepX w5 q t s a most T' S' A') (k2 : Keep (XB q t s a) w4 w5) (hL : L' = rows T' S' A') (hG : Good T' S' A' m) (hm : 0 ≤ m ∧ m ≤ 1000) (hln : (rlenN S' 1024 : Int) ≤ most) :
    Two w5 B p v' q t s a most T' S' A' m ∧ Keep (DB p v q t s a) w w5 ∧ ∀ x, v'.ownBlock = some x → v.ownBlock = some x ∨ w.heap.size ≤ x := by
  subst hL
  have hs0 := k0.size
  have hx := h.xlt
  have ap : ∀ x, (x = p ∨ v'.ownBlock = some x) → ¬ XB q t s a x := by
    rintro x (rfl | e) hxb
    · exact h.ap _ (.inl rfl) hxb
    · rcases hv x e with e | e
      · exact h.ap x (.inr e) hxb
      · have := (hx x hxb).1; omega
  refine ⟨⟨hR.keep k2 (ap p (.inl rfl)) (fun x e => ap x (.inr e)), hX, hG, ap, h.bd, hm, hln⟩, ((k0.mono (fun _ _ h => h.elim)).trans (k1.mono (fun _ _ h => .inl h))).trans (k2.mono (fun _ _ h => .inr h)), fun x e => ?_⟩
  rcases hv x e with e | e
  · exact .inl e
  · exact .inr (by omega)

/-- The rows behind a call. -/
def nxT (most K f g : Int) (T S A : List Int) : List Int := if K = 0 ∨ K = 1 ∨ K = 2 then rbeginT T S A most f g else if K = 3 ∨ K = 4 then T else if K = 5 then rendT T S f false else if K = 6 then rendT T S f true else T
def nxS (most K f g : Int) (T S A : List Int) : List Int := if K = 0 ∨ K = 1 ∨ K = 2 then rbeginS T S A most f g else if K = 3 ∨ K = 4 then rcopyS S f else if K = 5 then rendS T S f false else if K = 6 then rendS T S f true else S
def nxA (most K f g : Int) (T S A : List Int) : List Int := if K = 0 ∨ K = 1 ∨ K = 2 then rbeginA T S A most f g else if K = 3 ∨ K = 4 then A else if K = 5 then A else if K = 6 then A else ones A

theorem nx_len {T S A : List Int} {k : Int} (h : Good T S A k) (most K f g : Int) (hl : (rlenN S 1024 : Int) ≤ most) : (rlenN (nxS most K f g T S A) 1024 : Int) ≤ most := by
  have hls := h.ls
  have he : ∀ b, (rlenN (rendS T S f b) 1024 : Int) ≤ most := fun b => by
    unfold rendS
    by_cases hc : (rendR T S f b).2 = 0
    · rw [if_pos hc]
      rcases rmeet_cases h f with ⟨h1, h2⟩ | ⟨q, rfl, hq, h1, h2⟩
      · unfold rendR at hc; rw [if_pos h1] at hc; simp at hc
      · have := rlenN_set (T := S) (i := q) (v := 0) (by omega) 1024
        rw [Int.toNat_natCast]
        rw [if_pos (by omega), if_neg (by omega)] at this
        omega
    · rw [if_neg hc]; exact hl
  unfold nxS
  by_cases k1 : K = 0 ∨ K = 1 ∨ K = 2
  · rw [if_pos k1]
    unfold rbeginS
    by_cases e : rbeginE T S A most f g = 0
    · rw [if_pos e]
      obtain ⟨⟨f0, f1⟩, _, _, hn, _, hm⟩ := begin_facts h.ls e
      obtain ⟨f, rfl⟩ := Int.eq_ofNat_of_zero_le f0
      have := rlenN_set (T := S) (i := f) (v := 1) (by omega) 1024
      rw [Int.toNat_natCast]
      split at this <;> split at this <;> omega
    · rw [if_neg e]; exact hl
  rw [if_neg k1]
  by_cases k2 : K = 3 ∨ K = 4
  · rw [if_pos k2]
    unfold rcopyS
    by_cases hc : rcopyE S f = 0
    · rw [if_pos hc]
      rcases rmeet_cases h f with ⟨h1, h2⟩ | ⟨q, rfl, hq, h1, h2⟩
      · unfold rcopyE at hc; rw [if_pos h1] at hc; omega
      · have := rlenN_set (T := S) (i := q) (v := 2) (by omega) 1024
        rw [Int.toNat_natCast]
        rw [if_pos (by omega), if_pos (by omega)] at this
        omega
    · rw [if_neg hc]; exact hl
  rw [if_neg k2]
  by_cases k3 : K = 5
  · rw [if_pos k3]; exact he _
  rw [if_neg k3]
  by_cases k4 : K = 6
  · rw [if_pos k4]; exact he _
  rw [if_neg k4]; exact hl

theorem sA {S : Nat → Prop} {w W : World} {b : Nat} {f g : Value} (K : Keep S w W) (hS : ¬ S b) (x1 : w.cell? ⟨b, 1, none⟩ = some f) (x2 : w.cell? ⟨b, 2, none⟩ = some g) : W.cell? ⟨b, 1, none⟩ = some f ∧ W.cell? ⟨b, 2, none⟩ = some g :=
  ⟨(K.cell (block_lt_cell x1) hS).trans x1, (K.cell (block_lt_cell x2) hS).trans x2⟩

set_option maxRecDepth 100000 in
set_option maxHeartbeats 4000000 in
theorem do_any {w : World} {B p : Nat} {v : Value} {q t s a : Nat} {most : Int} {T S A : List Int} {k : Int} (K f g : Int) (h : Two w B p v q t s a most T S A k) (hk : k < 1000) (hB : B ≤ w.heap.size) :
    Calls Try.prog 12 #[.pointer (some ⟨p, 0, none⟩), .pointer (some ⟨q, 0, none⟩), .agg #[.int .i64 K, .int .i64 f, .int .i64 g]] w fun e w' => e = .returned (.bool true) ∧
      ∃ v', Two w' B p v' q t s a most (nxT most K f g T S A) (nxS most K f g T S A) (nxA most K f g T S A) (k + 1) ∧ Keep (DB p v q t s a) w w' ∧ ∀ x, v'.ownBlock = some x → v.ownBlock = some x ∨ w.heap.size ≤ x := by
  have hk0 := h.k0
  have hG := h.gd
  have KW : Hid (Keep (fun _ => False) w (w.alloc (.cells #[.int .i64 K, .int .i64 f, .int .i64 g] 24))) := (Keep.refl _ _).alloc _
  have hN : (w.alloc (.cells #[.int .i64 K, .int .i64 f, .int .i64 g] 24)).heap[w.heap.size]? = some (.cells #[.int .i64 K, .int .i64 f, .int .i64 g] 24 (0, 0)) := heap_alloc_new w _
  have hN' := Lib.hid hN
  obtain ⟨x0, x1, x2⟩ : (w.alloc (.cells #[.int .i64 K, .int .i64 f, .int .i64 g] 24)).cell? ⟨w.heap.size, 0, none⟩ = some (.int .i64 K) ∧ (w.alloc (.cells #[.int .i64 K, .int .i64 f, .int .i64 g] 24)).cell? ⟨w.heap.size, 1, none⟩ = some (.int .i64 f) ∧ (w.alloc (.cells #[.int .i64 K, .int .i64 f, .int .i64 g] 24)).cell? ⟨w.heap.size, 2, none⟩ = some (.int .i64 g) := by simp [cell_block hN]
  have hp4 : Hid (¬ (w.heap.size = p ∨ v.ownBlock = some w.heap.size)) := by
    have := block_lt h.rm.hp
    rintro (e | e)
    · omega
    · have := (h.rm.hv.lt _ e).2; omega
  have HLN := Lib.hid (nx_len hG most K f g h.ln)
  have H := Lib.hid h
  clear h hN
  by_cases k1 : K = 0 ∨ K = 1 ∨ K = 2
  · have e1 : Hid (nxT most K f g T S A = rbeginT T S A most f g ∧ nxS most K f g T S A = rbeginS T S A most f g ∧ nxA most K f g T S A = rbeginA T S A most f g) := by
      unfold Hid nxT nxS nxA; rw [if_pos k1, if_pos k1, if_pos k1]; exact ⟨rfl, rfl, rfl⟩
    have HE := Lib.hid (beginE_eq hG most f g)
    rcases k1 with rfl | rfl | rfl
    · go_enter Try.func12, Try.ntmps12
      go_wp2
      go_region_held3 (fun w' => w'.cell? ⟨w.heap.size, 1, none⟩ = some (.int .i64 f) ∧ w'.cell? ⟨w.heap.size, 2, none⟩ = some (.int .i64 g))
        (first | exact ⟨x1, x2⟩ | exact sA HK4.out hp4.out x1 x2 | exact sA HK5.out hp5.out x1 x2)
        (first | (go_at_call 17; refine (begin_any B p v most _ f g _ (by have := KW.out.size; simp at this ⊢; omega) (H.out.rm.keep (S := fun _ => False) (KW.out.drew) id (fun _ _ => id))).mono ?_; rw [HE.out]; rintro e w4 ⟨v4, rfl, hR4, hk4, hv4⟩; replace hk4 : Keep (fun x => x = p ∨ v.ownBlock = some x) _ w4 := hk4.mono (fun _ _ h => .inl h); have HR4 := Lib.hid hR4; have HK0 := Lib.hid hk4; have HK4 : Hid (Keep (fun x => x = p ∨ v.ownBlock = some x) (w.alloc (.cells #[.int .i64 0, .int .i64 f, .int .i64 g] 24)) w4) := Keep.trans (by (repeat (first | exact Keep.refl _ _ | exact Keep.refl _ _ | refine Keep.drew ?_ | refine Keep.drewN ?_ _ | refine Keep.alloc ?_ _ | refine Keep.setNew ?_ (by omega) _)); done) hk4; have HV4 := Lib.hid hv4; clear hR4 hk4 hv4) | (go_at_call 29; refine (rbegin_any f g (H.out.rx4 KW.out.drew HK0.out)).mono ?_; rintro e w5 ⟨rfl, hX5, hk5⟩; have HX5 := Lib.hid hX5; have HK9 := Lib.hid hk5; have HK5 : Hid (Keep (DB p v q t s a) (w.alloc (.cells #[.int .i64 0, .int .i64 f, .int .i64 g] 24)) w5) := Keep.trans (HK4.out.mono (fun _ _ h => .inl h)) (hk5.mono (fun _ _ h => .inr h)); have hp5 : Hid (¬ DB p v q t s a w.heap.size) := (by rintro (h | h); exact hp4.out h; exact absurd (H.out.xlt _ h).1 (Nat.lt_irrefl _)); clear hX5 hk5))
      go_wp2
      go_ret
      have HL2 := HLN.out
      rw [e1.out.2.1] at HL2
      rw [e1.out.1, e1.out.2.1, e1.out.2.2]
      exact ⟨rfl, _, H.out.next (KW.out.drew) HR4.out HK0.out HV4.out HX5.out HK9.out (begin_eq hG most f g) ((hG.begin hk0.1 most f g).age (by omega)) (by omega) HL2⟩
    · go_enter Try.func12, Try.ntmps12
      go_wp2
      go_region_held3 (fun w' => w'.cell? ⟨w.heap.size, 1, none⟩ = some (.int .i64 f) ∧ w'.cell? ⟨w.heap.size, 2, none⟩ = some (.int .i64 g))
        (first | exact ⟨x1, x2⟩ | exact sA HK4.out hp4.out x1 x2 | exact sA HK5.out hp5.out x1 x2)
        (first | (go_at_call 17; refine (begin_any B p v most _ f g _ (by have := KW.out.size; simp at this ⊢; omega) (H.out.rm.keep (S := fun _ => False) (KW.out.drew) id (fun _ _ => id))).mono ?_; rw [HE.out]; rintro e w4 ⟨v4, rfl, hR4, hk4, hv4⟩; replace hk4 : Keep (fun x => x = p ∨ v.ownBlock = some x) _ w4 := hk4.mono (fun _ _ h => .inl h); have HR4 := Lib.hid hR4; have HK0 := Lib.hid hk4; have HK4 : Hid (Keep (fun x => x = p ∨ v.ownBlock = some x) (w.alloc (.cells #[.int .i64 1, .int .i64 f, .int .i64 g] 24)) w4) := Keep.trans (by (repeat (first | exact Keep.refl _ _ | exact Keep.refl _ _ | refine Keep.drew ?_ | refine Keep.drewN ?_ _ | refine Keep.alloc ?_ _ | refine Keep.setNew ?_ (by omega) _)); done) hk4; have HV4 := Lib.hid hv4; clear hR4 hk4 hv4) | (go_at_call 29; refine (rbegin_any f g (H.out.rx4 KW.out.drew HK0.out)).mono ?_; rintro e w5 ⟨rfl, hX5, hk5⟩; have HX5 := Lib.hid hX5; have HK9 := Lib.hid hk5; have HK5 : Hid (Keep (DB p v q t s a) (w.alloc (.cells #[.int .i64 1, .int .i64 f, .int .i64 g] 24)) w5) := Keep.trans (HK4.out.mono (fun _ _ h => .inl h)) (hk5.mono (fun _ _ h => .inr h)); have hp5 : Hid (¬ DB p v q t s a w.heap.size) := (by rintro (h | h); exact hp4.out h; exact absurd (H.out.xlt _ h).1 (Nat.lt_irrefl _)); clear hX5 hk5))
      go_wp2
      go_ret
      have HL2 := HLN.out
      rw [e1.out.2.1] at HL2
      rw [e1.out.1, e1.out.2.1, e1.out.2.2]
      exact ⟨rfl, _, H.out.next (KW.out.drew) HR4.out HK0.out HV4.out HX5.out HK9.out (begin_eq hG most f g) ((hG.begin hk0.1 most f g).age (by omega)) (by omega) HL2⟩
    · go_enter Try.func12, Try.ntmps12
      go_wp2
      go_region_held3 (fun w' => w'.cell? ⟨w.heap.size, 1, none⟩ = some (.int .i64 f) ∧ w'.cell? ⟨w.heap.size, 2, none⟩ = some (.int .i64 g))
        (first | exact ⟨x1, x2⟩ | exact sA HK4.out hp4.out x1 x2 | exact sA HK5.out hp5.out x1 x2)
        (first | (go_at_call 17; refine (begin_any B p v most _ f g _ (by have := KW.out.size; simp at this ⊢; omega) (H.out.rm.keep (S := fun _ => False) (KW.out.drew) id (fun _ _ => id))).mono ?_; rw [HE.out]; rintro e w4 ⟨v4, rfl, hR4, hk4, hv4⟩; replace hk4 : Keep (fun x => x = p ∨ v.ownBlock = some x) _ w4 := hk4.mono (fun _ _ h => .inl h); have HR4 := Lib.hid hR4; have HK0 := Lib.hid hk4; have HK4 : Hid (Keep (fun x => x = p ∨ v.ownBlock = some x) (w.alloc (.cells #[.int .i64 2, .int .i64 f, .int .i64 g] 24)) w4) := Keep.trans (by (repeat (first | exact Keep.refl _ _ | exact Keep.refl _ _ | refine Keep.drew ?_ | refine Keep.drewN ?_ _ | refine Keep.alloc ?_ _ | refine Keep.setNew ?_ (by omega) _)); done) hk4; have HV4 := Lib.hid hv4; clear hR4 hk4 hv4) | (go_at_call 29; refine (rbegin_any f g (H.out.rx4 KW.out.drew HK0.out)).mono ?_; rintro e w5 ⟨rfl, hX5, hk5⟩; have HX5 := Lib.hid hX5; have HK9 := Lib.hid hk5; have HK5 : Hid (Keep (DB p v q t s a) (w.alloc (.cells #[.int .i64 2, .int .i64 f, .int .i64 g] 24)) w5) := Keep.trans (HK4.out.mono (fun _ _ h => .inl h)) (hk5.mono (fun _ _ h => .inr h)); have hp5 : Hid (¬ DB p v q t s a w.heap.size) := (by rintro (h | h); exact hp4.out h; exact absurd (H.out.xlt _ h).1 (Nat.lt_irrefl _)); clear hX5 hk5))
      go_wp2
      go_ret
      have HL2 := HLN.out
      rw [e1.out.2.1] at HL2
      rw [e1.out.1, e1.out.2.1, e1.out.2.2]
      exact ⟨rfl, _, H.out.next (KW.out.drew) HR4.out HK0.out HV4.out HX5.out HK9.out (begin_eq hG most f g) ((hG.begin hk0.1 most f g).age (by omega)) (by omega) HL2⟩
  by_cases k2 : K = 3 ∨ K = 4
  · have e1 : Hid (nxT most K f g T S A = T ∧ nxS most K f g T S A = rcopyS S f ∧ nxA most K f g T S A = A) := by
      unfold Hid nxT nxS nxA; rw [if_neg k1, if_neg k1, if_neg k1, if_pos k2, if_pos k2, if_pos k2]; exact ⟨rfl, rfl, rfl⟩
    have HE := Lib.hid (copyE_eq hG f)
    clear k1
    rcases k2 with rfl | rfl
    · go_enter Try.func12, Try.ntmps12
      go_wp2
      go_region_held3 (fun w' => w'.cell? ⟨w.heap.size, 1, none⟩ = some (.int .i64 f) ∧ w'.cell? ⟨w.heap.size, 2, none⟩ = some (.int .i64 g))
        (first | exact ⟨x1, x2⟩ | exact sA HK4.out hp4.out x1 x2 | exact sA HK5.out hp5.out x1 x2)
        (first | (go_at_call 18; refine (copy_any B p v most _ f _ (H.out.rm.keep (S := fun _ => False) (KW.out.drew) id (fun _ _ => id))).mono ?_; rw [HE.out]; rintro e w4 ⟨rfl, hR4, hk4⟩; have hv4 : ∀ x, v.ownBlock = some x → v.ownBlock = some x ∨ (w.alloc (.cells #[.int .i64 3, .int .i64 f, .int .i64 g] 24)).drew.heap.size ≤ x := fun _ h => .inl h; have HR4 := Lib.hid hR4; have HK0 := Lib.hid hk4; have HK4 : Hid (Keep (fun x => x = p ∨ v.ownBlock = some x) (w.alloc (.cells #[.int .i64 3, .int .i64 f, .int .i64 g] 24)) w4) := Keep.trans (by (repeat (first | exact Keep.refl _ _ | exact Keep.refl _ _ | refine Keep.drew ?_ | refine Keep.drewN ?_ _ | refine Keep.alloc ?_ _ | refine Keep.setNew ?_ (by omega) _)); done) hk4; have HV4 := Lib.hid hv4; clear hR4 hk4 hv4) | (go_at_call 30; refine (rcopy_any f (H.out.rx4 KW.out.drew HK0.out)).mono ?_; rintro e w5 ⟨rfl, hX5, hk5⟩; have HX5 := Lib.hid hX5; have HK9 := Lib.hid hk5; have HK5 : Hid (Keep (DB p v q t s a) (w.alloc (.cells #[.int .i64 3, .int .i64 f, .int .i64 g] 24)) w5) := Keep.trans (HK4.out.mono (fun _ _ h => .inl h)) (hk5.mono (fun _ _ h => .inr h)); have hp5 : Hid (¬ DB p v q t s a w.heap.size) := (by rintro (h | h); exact hp4.out h; exact absurd (H.out.xlt _ h).1 (Nat.lt_irrefl _)); clear hX5 hk5))
      go_wp2
      go_ret
      have HL2 := HLN.out
      rw [e1.out.2.1] at HL2
      rw [e1.out.1, e1.out.2.1, e1.out.2.2]
      exact ⟨rfl, _, H.out.next (KW.out.drew) HR4.out HK0.out HV4.out HX5.out HK9.out (copyL_eq hG f) ((hG.copy f).age (by omega)) (by omega) HL2⟩
    · go_enter Try.func12, Try.ntmps12
      go_wp2
      go_region_held3 (fun w' => w'.cell? ⟨w.heap.size, 1, none⟩ = some (.int .i64 f) ∧ w'.cell? ⟨w.heap.size, 2, none⟩ = some (.int .i64 g))
        (first | exact ⟨x1, x2⟩ | exact sA HK4.out hp4.out x1 x2 | exact sA HK5.out hp5.out x1 x2)
        (first | (go_at_call 18; refine (copy_any B p v most _ f _ (H.out.rm.keep (S := fun _ => False) (KW.out.drew) id (fun _ _ => id))).mono ?_; rw [HE.out]; rintro e w4 ⟨rfl, hR4, hk4⟩; have hv4 : ∀ x, v.ownBlock = some x → v.ownBlock = some x ∨ (w.alloc (.cells #[.int .i64 4, .int .i64 f, .int .i64 g] 24)).drew.heap.size ≤ x := fun _ h => .inl h; have HR4 := Lib.hid hR4; have HK0 := Lib.hid hk4; have HK4 : Hid (Keep (fun x => x = p ∨ v.ownBlock = some x) (w.alloc (.cells #[.int .i64 4, .int .i64 f, .int .i64 g] 24)) w4) := Keep.trans (by (repeat (first | exact Keep.refl _ _ | exact Keep.refl _ _ | refine Keep.drew ?_ | refine Keep.drewN ?_ _ | refine Keep.alloc ?_ _ | refine Keep.setNew ?_ (by omega) _)); done) hk4; have HV4 := Lib.hid hv4; clear hR4 hk4 hv4) | (go_at_call 30; refine (rcopy_any f (H.out.rx4 KW.out.drew HK0.out)).mono ?_; rintro e w5 ⟨rfl, hX5, hk5⟩; have HX5 := Lib.hid hX5; have HK9 := Lib.hid hk5; have HK5 : Hid (Keep (DB p v q t s a) (w.alloc (.cells #[.int .i64 4, .int .i64 f, .int .i64 g] 24)) w5) := Keep.trans (HK4.out.mono (fun _ _ h => .inl h)) (hk5.mono (fun _ _ h => .inr h)); have hp5 : Hid (¬ DB p v q t s a w.heap.size) := (by rintro (h | h); exact hp4.out h; exact absurd (H.out.xlt _ h).1 (Nat.lt_irrefl _)); clear hX5 hk5))
      go_wp2
      go_ret
      have HL2 := HLN.out
      rw [e1.out.2.1] at HL2
      rw [e1.out.1, e1.out.2.1, e1.out.2.2]
      exact ⟨rfl, _, H.out.next (KW.out.drew) HR4.out HK0.out HV4.out HX5.out HK9.out (copyL_eq hG f) ((hG.copy f).age (by omega)) (by omega) HL2⟩
  by_cases k3 : K = 5
  · have e1 : Hid (nxT most K f g T S A = rendT T S f false ∧ nxS most K f g T S A = rendS T S f false ∧ nxA most K f g T S A = A) := by
      unfold Hid nxT nxS nxA; rw [if_neg k1, if_neg k1, if_neg k1, if_neg k2, if_neg k2, if_neg k2, if_pos k3, if_pos k3, if_pos k3]; exact ⟨rfl, rfl, rfl⟩
    have HE := Lib.hid (fin_eq hG f)
    clear k1 k2
    subst k3
    go_enter Try.func12, Try.ntmps12
    go_wp2_with (first | (go_at_call 19; refine (fin_any B p v most _ f _ (by have := KW.out.size; simp at this ⊢; omega) (H.out.rm.keep (S := fun _ => False) (KW.out) id (fun _ _ => id))).mono ?_; rw [HE.out.1]; rintro e w4 ⟨v4, rfl, hR4, hk4, hv4⟩; replace hk4 : Keep (fun x => x = p ∨ v.ownBlock = some x) _ w4 := hk4.mono (fun _ _ h => .inl h); have HR4 := Lib.hid hR4; have HK0 := Lib.hid hk4; have HK4 : Hid (Keep (fun x => x = p ∨ v.ownBlock = some x) (w.alloc (.cells #[.int .i64 5, .int .i64 f, .int .i64 g] 24)) w4) := Keep.trans (by (repeat (first | exact Keep.refl _ _ | exact Keep.refl _ _ | refine Keep.drew ?_ | refine Keep.drewN ?_ _ | refine Keep.alloc ?_ _ | refine Keep.setNew ?_ (by omega) _)); done) hk4; have HV4 := Lib.hid hv4; clear hR4 hk4 hv4; obtain ⟨y1, y2⟩ := sA HK4.out hp4.out x1 x2) | (go_at_call 31; refine (rend_any f false (H.out.rx4 KW.out HK0.out)).mono ?_; rintro e w5 ⟨rfl, hX5, hk5⟩; have HX5 := Lib.hid hX5; have HK9 := Lib.hid hk5; clear hX5 hk5))
    go_ret
    have HL2 := HLN.out
    rw [e1.out.2.1] at HL2
    rw [e1.out.1, e1.out.2.1, e1.out.2.2]
    exact ⟨rfl, _, H.out.next KW.out HR4.out HK0.out HV4.out HX5.out HK9.out HE.out.2 ((hG.fin f false).age (by omega)) (by omega) HL2⟩
  by_cases k4 : K = 6
  · have e1 : Hid (nxT most K f g T S A = rendT T S f true ∧ nxS most K f g T S A = rendS T S f true ∧ nxA most K f g T S A = A) := by
      unfold Hid nxT nxS nxA; rw [if_neg k1, if_neg k1, if_neg k1, if_neg k2, if_neg k2, if_neg k2, if_neg k3, if_neg k3, if_neg k3, if_pos k4, if_pos k4, if_pos k4]; exact ⟨rfl, rfl, rfl⟩
    have HE := Lib.hid (abort_eq hG f)
    clear k1 k2 k3
    subst k4
    go_enter Try.func12, Try.ntmps12
    go_wp2_with (first | (go_at_call 20; refine (abort_any B p v most _ f _ (by have := KW.out.size; simp at this ⊢; omega) (H.out.rm.keep (S := fun _ => False) (KW.out) id (fun _ _ => id))).mono ?_; rw [HE.out.1]; rintro e w4 ⟨v4, rfl, hR4, hk4, hv4⟩; replace hk4 : Keep (fun x => x = p ∨ v.ownBlock = some x) _ w4 := hk4.mono (fun _ _ h => .inl h); have HR4 := Lib.hid hR4; have HK0 := Lib.hid hk4; have HK4 : Hid (Keep (fun x => x = p ∨ v.ownBlock = some x) (w.alloc (.cells #[.int .i64 6, .int .i64 f, .int .i64 g] 24)) w4) := Keep.trans (by (repeat (first | exact Keep.refl _ _ | exact Keep.refl _ _ | refine Keep.drew ?_ | refine Keep.drewN ?_ _ | refine Keep.alloc ?_ _ | refine Keep.setNew ?_ (by omega) _)); done) hk4; have HV4 := Lib.hid hv4; clear hR4 hk4 hv4; obtain ⟨y1, y2⟩ := sA HK4.out hp4.out x1 x2) | (go_at_call 31; refine (rend_any f true (H.out.rx4 KW.out HK0.out)).mono ?_; rintro e w5 ⟨rfl, hX5, hk5⟩; have HX5 := Lib.hid hX5; have HK9 := Lib.hid hk5; clear hX5 hk5))
    go_ret
    have HL2 := HLN.out
    rw [e1.out.2.1] at HL2
    rw [e1.out.1, e1.out.2.1, e1.out.2.2]
    exact ⟨rfl, _, H.out.next KW.out HR4.out HK0.out HV4.out HX5.out HK9.out HE.out.2 ((hG.fin f true).age (by omega)) (by omega) HL2⟩
  · have e1 : Hid (nxT most K f g T S A = T ∧ nxS most K f g T S A = S ∧ nxA most K f g T S A = ones A) := by
      unfold Hid nxT nxS nxA; rw [if_neg k1, if_neg k1, if_neg k1, if_neg k2, if_neg k2, if_neg k2, if_neg k3, if_neg k3, if_neg k3, if_neg k4, if_neg k4, if_neg k4]; exact ⟨rfl, rfl, rfl⟩
    have q0 : (K == 0) = false := by simp; omega
    have q1 : (K == 1) = false := by simp; omega
    have q2 : (K == 2) = false := by simp; omega
    have q3 : (K == 3) = false := by simp; omega
    have q4 : (K == 4) = false := by simp; omega
    have q5 : (K == 5) = false := by simp; omega
    have q6 : (K == 6) = false := by simp; omega
    clear k1 k2 k3 k4
    have hag := Lib.hid hG.ag
    have hages : Hid (∀ x, x ∈ rows T S A → 0 ≤ x.a ∧ x.a ≤ 1000000) := by
      intro x hx
      obtain ⟨j, hj, _, rfl⟩ := mem_rows.mp hx
      have := hag.out j hj
      simp only [mk]; omega
    have hages2 : Hid (∀ i, i < 1024 → 0 ≤ gi A i ∧ gi A i ≤ 1000000) := by
      intro j hj
      have := hag.out j hj
      omega
    go_enter Try.func12, Try.ntmps12
    go_wp2_with (first | (go_at_call 21; refine (tick_any B p v most _ _ (H.out.rm.keep (S := fun _ => False) (KW.out) id (fun _ _ => id)) hages.out).mono ?_; rintro e w4 ⟨rfl, hR4, hk4⟩; have HR4 := Lib.hid hR4; have HK0 := Lib.hid hk4; have HK4 : Hid (Keep (fun x => x = p ∨ v.ownBlock = some x) (w.alloc (.cells #[.int .i64 K, .int .i64 f, .int .i64 g] 24)) w4) := Keep.trans (by (repeat (first | exact Keep.refl _ _ | exact Keep.refl _ _ | refine Keep.drew ?_ | refine Keep.drewN ?_ _ | refine Keep.alloc ?_ _ | refine Keep.setNew ?_ (by omega) _)); done) hk4; clear hR4 hk4) | (go_at_call 32; refine (rtick_any (H.out.rx4 KW.out HK0.out) hages2.out).mono ?_; rintro e w5 ⟨rfl, hX5, hk5⟩; have HX5 := Lib.hid hX5; have HK9 := Lib.hid hk5; clear hX5 hk5))
    go_ret
    have HL2 := HLN.out
    rw [e1.out.2.1] at HL2
    rw [e1.out.1, e1.out.2.1, e1.out.2.2]
    exact ⟨rfl, _, H.out.next KW.out HR4.out HK0.out (fun _ h => .inl h) HX5.out HK9.out (tick_eq hG) hG.tick (by omega) HL2⟩

end Go.Proofs.Ytnlalihapmlceaa
