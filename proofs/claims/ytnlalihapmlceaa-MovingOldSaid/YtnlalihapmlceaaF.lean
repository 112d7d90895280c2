/- Moves: the reference's object; its looks. -/
import Derived.Test.YtnlalihapmlceaaA
import Derived.Test.YtnlalihapmlceaaReg
import Derived.Deep.QuietTactic
import Derived.BigQuiet
import Derived.Deep.RegionHeld3
import Derived.IntWalk
set_option linter.unusedVariables false
set_option linter.unusedSimpArgs false
namespace Go.Proofs.Ytnlalihapmlceaa
open Go.RowKit Go.Own

/-- The reference's object at p: where to, how far, how old, of each of 1024 frames. -/
structure RepX (w : World) (p t s a : Nat) (most : Int) (T S A : List Int) : Prop where
  hp : w.heap[p]? = some (.cells #[.int .i64 most, .slice (some ⟨t, 0, none⟩) 1024 1024, .slice (some ⟨s, 0, none⟩) 1024 1024, .slice (some ⟨a, 0, none⟩) 1024 1024] 60 (0, 0))
  ht : w.heap[t]? = some (rowI T)
  hs : w.heap[s]? = some (rowI S)
  ha : w.heap[a]? = some (rowI A)
  lt : T.length = 1024
  ls : S.length = 1024
  la : A.length = 1024
  ne : p ≠ t ∧ p ≠ s ∧ p ≠ a ∧ t ≠ s ∧ t ≠ a ∧ s ≠ a
  bt : ∀ i, i < 1024 → 0 ≤ gi T i ∧ gi T i ≤ 1024

section
variable {w : World} {p t s a : Nat} {most : Int} {T S A : List Int} (h : RepX w p t s a most T S A)
include h
theorem RepX.c0 : w.cell? ⟨p, 0, none⟩ = some (.int .i64 most) := by rw [cell_block h.hp]; rfl
theorem RepX.c1 : w.cell? ⟨p, 1, none⟩ = some (.slice (some ⟨t, 0, none⟩) 1024 1024) := by rw [cell_block h.hp]; rfl
theorem RepX.c2 : w.cell? ⟨p, 2, none⟩ = some (.slice (some ⟨s, 0, none⟩) 1024 1024) := by rw [cell_block h.hp]; rfl
theorem RepX.c3 : w.cell? ⟨p, 3, none⟩ = some (.slice (some ⟨a, 0, none⟩) 1024 1024) := by rw [cell_block h.hp]; rfl
theorem RepX.keep {R : Nat → Prop} {w' : World} (k : Keep R w w') (hr : ¬ R p ∧ ¬ R t ∧ ¬ R s ∧ ¬ R a) : RepX w' p t s a most T S A :=
  ⟨(k.block p (block_lt h.hp) hr.1).trans h.hp, (k.block t (block_lt h.ht) hr.2.1).trans h.ht, (k.block s (block_lt h.hs) hr.2.2.1).trans h.hs, (k.block a (block_lt h.ha) hr.2.2.2).trans h.ha, h.lt, h.ls, h.la, h.ne, h.bt⟩
theorem RepX.keep0 {w' : World} (k : Keep (fun _ => False) w w') : RepX w' p t s a most T S A := h.keep k ⟨id, id, id, id⟩
end

def frameR (f : Int) : Bool := decide (0 ≤ f ∧ f ≤ 1023)

set_option maxHeartbeats 400000 in
theorem rframe_any (f : Int) (w : World) : Calls Try.prog 37 #[.int .i64 f] w fun e w' => e = .returned (.bool (frameR f)) ∧ w = w' := by
  go_enter Try.func37, Try.ntmps37
  go_wp2
  all_goals
    go_ret
    exact ⟨ret_bool (by simp [frameR] <;> omega), rfl⟩

def rmeet (S : List Int) (f : Int) : Int := if frameR f = true then gi S f.toNat else 0
theorem frameR_iff {f : Int} : frameR f = true ↔ 0 ≤ f ∧ f ≤ 1023 := by simp [frameR]

set_option maxHeartbeats 400000 in
theorem rmeet_any {w : World} {p t s a : Nat} {most : Int} {T S A : List Int} (f : Int) (h : RepX w p t s a most T S A) :
    Calls Try.prog 22 #[.pointer (some ⟨p, 0, none⟩), .int .i64 f] w fun e w' => e = .returned (.int .i64 (rmeet S f)) ∧ w = w' := by
  by_cases hf : frameR f = true
  · have hf' := frameR_iff.1 hf
    obtain ⟨f, rfl⟩ := Int.eq_ofNat_of_zero_le hf'.1
    have c2 := h.c2
    have hc : w.cell? ⟨s, f, none⟩ = some (.int .i64 (gi S f)) := cell_rowI h.hs (by rw [h.ls]; omega)
    have h1 : f < 1024 := by omega
    go_enter Try.func22, Try.ntmps22
    go_wp2_with (go_at_call 37; refine (rframe_any _ _).mono ?_; rintro e w1 ⟨rfl, rfl⟩)
    go_ret
    exact ⟨ret_int (by unfold rmeet; rw [if_pos hf]; rfl), rfl⟩
  · have hf' : frameR f = false := by simpa using hf
    go_enter Try.func22, Try.ntmps22
    go_wp2_with (go_at_call 37; refine (rframe_any _ _).mono ?_; rintro e w1 ⟨rfl, rfl⟩)
    go_ret
    exact ⟨ret_int (by unfold rmeet; rw [if_neg hf]), rfl⟩

/-- How many move. -/
def rlenN (S : List Int) : Nat → Nat
  | 0 => 0
  | k + 1 => rlenN S k + if 0 < gi S k then 1 else 0
theorem rlenN_le (S : List Int) (k : Nat) : rlenN S k ≤ k := by
  induction k with
  | zero => exact Nat.le_refl _
  | succ k ih => simp only [rlenN]; split <;> omega

set_option maxRecDepth 100000 in
set_option maxHeartbeats 400000 in
theorem rlen_any {w : World} {p t s a : Nat} {most : Int} {T S A : List Int} (h : RepX w p t s a most T S A) :
    Calls Try.prog 40 #[.pointer (some ⟨p, 0, none⟩)] w fun e w' => e = .returned (.int .i64 (rlenN S S.length)) ∧ w = w' := by
  have c2 := h.c2
  go_enter Try.func40, Try.ntmps40
  go_wp2
  go_loop [3, 4] (fun n i => ∃ k : Nat, k ≤ 1024 ∧ i = .int .i64 k ∧ n = .int .i64 (rlenN S k)) (fun _ i => 1024 - (intOf i).toNat)
  case atStart => exact ⟨0, by omega, rfl, rfl⟩
  case round =>
    obtain ⟨k, hk, rfl, rfl⟩ := hrel
    have hb := rlenN_le S k
    have HS : Hid (rlenN S (k + 1) = rlenN S k + if 0 < gi S k then 1 else 0) := rfl
    by_cases hlt : k < 1024
    · have hc : w.cell? ⟨s, k, none⟩ = some (.int .i64 (gi S k)) := cell_rowI h.hs (by rw [h.ls]; omega)
      by_cases h0 : 0 < gi S k
      · go_wp2
        go_round
        case rel => exact ⟨k + 1, by omega, by go_num, by rw [HS.out, if_pos h0]; go_num⟩
        case measure => simp [intOf]; omega
      · go_wp2
        go_round
        case rel => exact ⟨k + 1, by omega, by go_num, by rw [HS.out, if_neg h0]; go_num⟩
        case measure => simp [intOf]; omega
    · have hk2 : k = S.length := by rw [h.ls]; omega
      have HK := Lib.hid hk2
      clear hk2
      go_wp2
      go_ret
      exact ⟨ret_int (by rw [HK.out]), rfl⟩

/-- The first frame from i on whose move a frame is in. -/
def rfindN (T S : List Int) (f : Int) : Nat → Nat → Option Nat
  | _, 0 => none
  | i, n + 1 => if 0 < gi S i ∧ ((i : Int) = f ∨ gi T i - 1 = f) then some i else rfindN T S f (i + 1) n
def rfind (T S A : List Int) (f : Int) : Option Mv := (rfindN T S f 0 S.length).map fun i : Nat => ⟨(i : Int), gi T i - 1, gi S i, gi A i⟩

theorem rfindN_hit {T S : List Int} {f : Int} {i n : Nat} (h0 : 0 < n) (h : 0 < gi S i ∧ ((i : Int) = f ∨ gi T i - 1 = f)) : rfindN T S f i n = some i := by
  obtain ⟨m, rfl⟩ : ∃ m, n = m + 1 := ⟨n - 1, by omega⟩
  unfold rfindN; rw [if_pos h]
theorem rfindN_miss {T S : List Int} {f : Int} {i n : Nat} (h0 : 0 < n) (h : ¬ (0 < gi S i ∧ ((i : Int) = f ∨ gi T i - 1 = f))) : rfindN T S f i n = rfindN T S f (i + 1) (n - 1) := by
  obtain ⟨m, rfl⟩ : ∃ m, n = m + 1 := ⟨n - 1, by omega⟩
  rw [Nat.succ_sub_one]; conv => lhs; unfold rfindN
  rw [if_neg h]

theorem s6 {w W : World} {p t s a k : Nat} {v1 v2 v3 x1 x2 x3 : Value} (K : Keep (fun _ => False) w W) (hp : p < w.heap.size) (ht : t < w.heap.size) (hs : s < w.heap.size) (ha : a < w.heap.size)
    (c1 : w.cell? ⟨p, 1, none⟩ = some v1) (c2 : w.cell? ⟨p, 2, none⟩ = some v2) (c3 : w.cell? ⟨p, 3, none⟩ = some v3) (cT : w.cell? ⟨t, k, none⟩ = some x1) (cS : w.cell? ⟨s, k, none⟩ = some x2) (cA : w.cell? ⟨a, k, none⟩ = some x3) :
    W.cell? ⟨p, 1, none⟩ = some v1 ∧ W.cell? ⟨p, 2, none⟩ = some v2 ∧ W.cell? ⟨p, 3, none⟩ = some v3 ∧ W.cell? ⟨t, k, none⟩ = some x1 ∧ W.cell? ⟨s, k, none⟩ = some x2 ∧ W.cell? ⟨a, k, none⟩ = some x3 :=
  ⟨(K.cell hp id).trans c1, (K.cell hp id).trans c2, (K.cell hp id).trans c3, (K.cell ht id).trans cT, (K.cell hs id).trans cS, (K.cell ha id).trans cA⟩

set_option maxRecDepth 100000 in
set_option maxHeartbeats 2000000 in
theorem rfind_any {w : World} {p t s a : Nat} {most : Int} {T S A : List Int} (f : Int) (h : RepX w p t s a most T S A) :
    Calls Try.prog 11 #[.pointer (some ⟨p, 0, none⟩), .int .i64 f] w fun e w' =>
      e = .returned (.tuple #[mvV ((rfind T S A f).getD mv0), .bool (rfind T S A f).isSome]) ∧ Keep (fun _ => False) w w' := by
  have hpl := block_lt h.hp
  have htl := block_lt h.ht
  have hsl := block_lt h.hs
  have hal := block_lt h.ha
  have c1 := h.c1
  have c2 := h.c2
  have c3 := h.c3
  go_enter Try.func11, Try.ntmps11
  go_wp2
  go_loop [6] (fun i => ∃ k : Nat, k ≤ 1024 ∧ i = .int .i64 k ∧ rfindN T S f 0 S.length = rfindN T S f k (1024 - k)) (fun i => 1024 - (intOf i).toNat)
  case atStart => exact ⟨0, by omega, rfl, by rw [h.ls]⟩
  case round =>
    obtain ⟨k, hk, rfl, hr⟩ := hrel
    have HR := Lib.hid hr
    clear hr
    by_cases hlt : k < 1024
    · have cS : w.cell? ⟨s, k, none⟩ = some (.int .i64 (gi S k)) := cell_rowI h.hs (by rw [h.ls]; omega)
      have cT : w.cell? ⟨t, k, none⟩ = some (.int .i64 (gi T k)) := cell_rowI h.ht (by rw [h.lt]; omega)
      have cA : w.cell? ⟨a, k, none⟩ = some (.int .i64 (gi A k)) := cell_rowI h.ha (by rw [h.la]; omega)
      have hbt := h.bt k hlt
      by_cases h0 : 0 < gi S k
      · by_cases h1 : (k : Int) = f
        · have h1' : ((k : Int) == f) = true := by simpa using h1
          have hF : Hid (rfind T S A f = some ⟨k, gi T k - 1, gi S k, gi A k⟩) := by unfold Hid rfind; rw [HR.out, rfindN_hit (by omega) ⟨h0, .inl h1⟩]; rfl
          have hwr : IntKind.i64.wrap (gi T k - 1) = gi T k - 1 := IntWalk.i64_in _ (by omega)
          clear h1
          go_wp2
          go_region_held3 (fun w' => w'.cell? ⟨p, 1, none⟩ = some (.slice (some ⟨t, 0, none⟩) 1024 1024) ∧ w'.cell? ⟨p, 2, none⟩ = some (.slice (some ⟨s, 0, none⟩) 1024 1024) ∧ w'.cell? ⟨p, 3, none⟩ = some (.slice (some ⟨a, 0, none⟩) 1024 1024) ∧ w'.cell? ⟨t, k, none⟩ = some (.int .i64 (gi T k)) ∧ w'.cell? ⟨s, k, none⟩ = some (.int .i64 (gi S k)) ∧ w'.cell? ⟨a, k, none⟩ = some (.int .i64 (gi A k)))
            ((refine s6 ?_ hpl htl hsl hal c1 c2 c3 cT cS cA; (repeat (first | exact Keep.refl _ _ | exact Keep.refl _ _ | refine Keep.drew ?_ | refine Keep.drewN ?_ _ | refine Keep.alloc ?_ _ | refine Keep.setNew ?_ (by omega) _)); done)) (fail)
          go_wp2
          refine bodyPost_ret (v := .tuple #[mvV ⟨k, gi T k - 1, gi S k, gi A k⟩, .bool true]) ?_ rfl ⟨by rw [hF.out]; rfl, (by (repeat (first | exact Keep.refl _ _ | exact Keep.refl _ _ | refine Keep.drew ?_ | refine Keep.drewN ?_ _ | refine Keep.alloc ?_ _ | refine Keep.setNew ?_ (by omega) _)); done)⟩
          simp [results, Try.results11, go_sem, mvV]
        · have h1' : ((k : Int) == f) = false := by simpa using h1
          by_cases h2 : gi T k - 1 = f
          · have h2' : (gi T k - 1 == f) = true := by simpa using h2
            have hF : Hid (rfind T S A f = some ⟨k, gi T k - 1, gi S k, gi A k⟩) := by unfold Hid rfind; rw [HR.out, rfindN_hit (by omega) ⟨h0, .inr h2⟩]; rfl
            have hwr : IntKind.i64.wrap (gi T k - 1) = gi T k - 1 := IntWalk.i64_in _ (by omega)
            clear h1 h2
            go_wp2
            go_region_held3 (fun w' => w'.cell? ⟨p, 1, none⟩ = some (.slice (some ⟨t, 0, none⟩) 1024 1024) ∧ w'.cell? ⟨p, 2, none⟩ = some (.slice (some ⟨s, 0, none⟩) 1024 1024) ∧ w'.cell? ⟨p, 3, none⟩ = some (.slice (some ⟨a, 0, none⟩) 1024 1024) ∧ w'.cell? ⟨t, k, none⟩ = some (.int .i64 (gi T k)) ∧ w'.cell? ⟨s, k, none⟩ = some (.int .i64 (gi S k)) ∧ w'.cell? ⟨a, k, none⟩ = some (.int .i64 (gi A k)))
              ((refine s6 ?_ hpl htl hsl hal c1 c2 c3 cT cS cA; (repeat (first | exact Keep.refl _ _ | exact Keep.refl _ _ | refine Keep.drew ?_ | refine Keep.drewN ?_ _ | refine Keep.alloc ?_ _ | refine Keep.setNew ?_ (by omega) _)); done)) (fail)
            go_wp2
            refine bodyPost_ret (v := .tuple #[mvV ⟨k, gi T k - 1, gi S k, gi A k⟩, .bool true]) ?_ rfl ⟨by rw [hF.out]; rfl, (by (repeat (first | exact Keep.refl _ _ | exact Keep.refl _ _ | refine Keep.drew ?_ | refine Keep.drewN ?_ _ | refine Keep.alloc ?_ _ | refine Keep.setNew ?_ (by omega) _)); done)⟩
            simp [results, Try.results11, go_sem, mvV]
          · have h2' : (gi T k - 1 == f) = false := by simpa using h2
            have hM : Hid (rfindN T S f 0 S.length = rfindN T S f (k + 1) (1024 - (k + 1))) := by unfold Hid; rw [HR.out, rfindN_miss (by omega) (by simp [h1, h2]), Nat.sub_sub]
            clear h1 h2
            go_wp2
            go_round
            case rel => exact ⟨k + 1, by omega, by go_num, hM.out⟩
            case measure => simp [intOf]; omega
      · have hM : Hid (rfindN T S f 0 S.length = rfindN T S f (k + 1) (1024 - (k + 1))) := by unfold Hid; rw [HR.out, rfindN_miss (by omega) (fun h => h0 h.1), Nat.sub_sub]
        go_wp2
        go_round
        case rel => exact ⟨k + 1, by omega, by go_num, hM.out⟩
        case measure => simp [intOf]; omega
    · have hN : Hid (rfind T S A f = none) := by unfold Hid rfind; rw [HR.out, show 1024 - k = 0 by omega]; rfl
      go_wp2
      refine bodyPost_ret (v := .tuple #[mvV mv0, .bool false]) ?_ rfl ⟨by rw [hN.out]; rfl, (by (repeat (first | exact Keep.refl _ _ | exact Keep.refl _ _ | refine Keep.drew ?_ | refine Keep.drewN ?_ _ | refine Keep.alloc ?_ _ | refine Keep.setNew ?_ (by omega) _)); done)⟩
      simp [results, Try.results11, go_sem, mvV, mv0]

end Go.Proofs.Ytnlalihapmlceaa
