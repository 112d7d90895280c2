/- Compounds: the reference's object; At, Many, drop. -/
import Derived.Test.YtdomdjfecnbenaaX
import Derived.Test.YtdomdjfecnbenaaG
set_option linter.unusedVariables false
set_option linter.unusedSimpArgs false
namespace Go.Proofs.Ytdomdjfecnbenaa
open Go.RowKit Go.Own

def On.v (x : On) : Value := .slice (some ⟨x.g, 0, none⟩) 8 x.c
def onE : Enc On where
  c := fun x => [.int .i64 x.f, x.v, .int .i64 x.s]
  k := 3
  hk := by decide
  len := fun _ => rfl
  one := fun x u hu => by simp at hu; rcases hu with rfl | rfl | rfl <;> rfl
def boE : Enc Bool where
  c := fun x => [.bool x]
  k := 1
  hk := by decide
  len := fun _ => rfl
  one := fun x u hu => by simp at hu; subst hu; rfl
def bl (b : Nat) : List Bool := [b / 1 % 2 == 1, b / 2 % 2 == 1, b / 4 % 2 == 1, b / 8 % 2 == 1, b / 16 % 2 == 1, b / 32 % 2 == 1, b / 64 % 2 == 1, b / 128 % 2 == 1]
theorem bl_len (b : Nat) : (bl b).length = 8 := rfl
theorem bl_at (b : Nat) {i : Nat} (hi : i < (bl b).length) : (bl b)[i] = (b / 2 ^ i % 2 == 1) := by
  have h : i < 8 := hi
  have : i = 0 ∨ i = 1 ∨ i = 2 ∨ i = 3 ∨ i = 4 ∨ i = 5 ∨ i = 6 ∨ i = 7 := by omega
  rcases this with rfl | rfl | rfl | rfl | rfl | rfl | rfl | rfl <;> rfl
def pcN (b : Nat) : Nat → Nat
  | 0 => 0
  | k + 1 => pcN b k + if b / 2 ^ k % 2 = 1 then 1 else 0
theorem pcN_le (b : Nat) : ∀ k, pcN b k ≤ k := by
  intro k
  induction k with
  | zero => exact Nat.le_refl _
  | succ k ih => simp only [pcN]; split <;> omega
theorem lostN_pc (f : Int) (b : Nat) : ∀ k, (lostN f b k).length = pcN b k := by
  intro k
  induction k with
  | zero => rfl
  | succ k ih => simp only [lostN, pcN, List.length_append, ih]; split <;> rfl
theorem pc_zero : ∀ b : Fin 256, (pcN b.val 8 = 0) = (b.val = 0) := by decide +kernel
theorem pc_all : ∀ b : Fin 256, (pcN b.val 8 = 8) = (b.val = 255) := by decide +kernel
theorem bl_or : ∀ b : Fin 256, ∀ j : Fin 8, bl (b.val ||| 2 ^ j.val) = (bl b.val).set j.val true := by decide +kernel
theorem bl_and : ∀ b : Fin 256, ∀ j : Fin 8, bl (b.val &&& (255 - 2 ^ j.val)) = (bl b.val).set j.val false := by decide +kernel
theorem bl_bit : ∀ b : Fin 256, ∀ j : Fin 8, (b.val / 2 ^ j.val % 2 == 1) = (b.val &&& 2 ^ j.val != 0) := by decide +kernel

theorem info51 : (Try.prog.info? 51).map (fun i => (i.zero, i.size, i.bytes)) = some (some (.agg #[.int .i64 0, .slice none 0 0, .int .i64 0]), 3, 40) := by kernel_rfl
theorem info4 : (Try.prog.info? 4).map (fun i => (i.zero, i.size, i.bytes)) = some (some (.bool false), 1, 1) := by kernel_rfl
theorem et41 : ET Try.prog 41 51 (.agg #[.int .i64 0, .slice none 0 0, .int .i64 0]) 3 40 := ⟨Try.underlying41, info51, rfl, by decide⟩
theorem et28 : ET Try.prog 28 4 (.bool false) 1 1 := ⟨Try.underlying28, info4, rfl, by decide⟩

structure RepX (w : World) (B q : Nat) (v : Value) (X : List On) (T : Int) : Prop where
  hp : w.heap[q]? = some (.cells #[v, .int .i64 T] 43 (0, 0))
  hv : OwnL onE w B 51 v X
  hb : ∀ x, x ∈ X → OwnL boE w B 4 x.v (bl x.b)
  nq : v.ownBlock ≠ some q
  nb : ∀ x, x ∈ X → x.g ≠ q ∧ v.ownBlock ≠ some x.g
  hl : X.length ≤ 200
  hf : ∀ x, x ∈ X → 0 ≤ x.f ∧ x.f ≤ 1016 ∧ x.f % 8 = 0
  hc : ∀ x, x ∈ X → x.b < 256
  ht : 0 ≤ T ∧ T ≤ 100000

section
variable {w : World} {B q : Nat} {v : Value} {X : List On} {T : Int} (h : RepX w B q v X T)
include h
theorem RepX.c0 : w.cell? ⟨q, 0, none⟩ = some v := by rw [cell_block h.hp]; rfl
theorem RepX.c1 : w.cell? ⟨q, 1, none⟩ = some (.int .i64 T) := by rw [cell_block h.hp]; rfl
theorem RepX.keep {S : Nat → Prop} {w' : World} (k : Keep S w w') (hp : ¬ S q) (hv : ∀ x, v.ownBlock = some x → ¬ S x) (hx : ∀ x, x ∈ X → ¬ S x.g) : RepX w' B q v X T :=
  ⟨(k.block q (block_lt h.hp) hp).trans h.hp, h.hv.keep k hv, fun x m => (h.hb x m).keep k (fun y e => by simp [On.v, Value.ownBlock] at e; exact e ▸ hx x m), h.nq, h.nb, h.hl, h.hf, h.hc, h.ht⟩
theorem RepX.keep0 {w' : World} (k : Keep (fun _ => False) w w') : RepX w' B q v X T := h.keep k id (fun _ _ => id) (fun _ _ => id)
theorem RepX.glt {x : On} (m : x ∈ X) : B ≤ x.g ∧ x.g < w.heap.size := (h.hb x m).lt x.g rfl
end

theorem on_cells {w : World} {B g n cap i : Nat} {X : List On} (h : OwnL onE w B 51 (.slice (some ⟨g, 0, none⟩) n cap) X) (hi : i < X.length) :
    w.cell? ⟨g, i * 3, none⟩ = some (.int .i64 X[i].f) ∧ w.cell? ⟨g, i * 3 + 1, none⟩ = some (.slice (some ⟨X[i].g, 0, none⟩) 8 X[i].c) ∧ w.cell? ⟨g, i * 3 + 2, none⟩ = some (.int .i64 X[i].s) :=
  ⟨OwnL.cell (j := 0) h hi (by decide), OwnL.cell (j := 1) h hi (by decide), OwnL.cell (j := 2) h hi (by decide)⟩
theorem bo_cell {w : World} {B g n cap i b : Nat} (h : OwnL boE w B 4 (.slice (some ⟨g, 0, none⟩) n cap) (bl b)) (hi : i < 8) :
    w.cell? ⟨g, i, none⟩ = some (.bool (b / 2 ^ i % 2 == 1)) := by
  have h1 := OwnL.cell (j := 0) h (i := i) (show i < (bl b).length from hi) (by decide)
  have h2 := bl_at b (show i < (bl b).length from hi)
  simp only [h2] at h1
  simpa [boE] using h1

set_option maxRecDepth 100000 in
set_option maxHeartbeats 1000000 in
theorem at_any (B q : Nat) (v : Value) (X : List On) (T : Int) (f : Int) (w : World) (hR : RepX w B q v X T) :
    Calls Try.prog 17 #[.pointer (some ⟨q, 0, none⟩), .int .i64 f] w fun e w' => e = .returned (.int .i64 (atX X f)) ∧ w = w' := by
  have hc0 := hR.c0
  have hl := hR.hl
  obtain ⟨a, cap, rfl, hag⟩ := hR.hv.slice
  have HAG := Lib.hid hag
  clear hag
  go_enter Try.func17, Try.ntmps17
  go_wp2
  go_loop [5] (fun i => ∃ k : Nat, k ≤ X.length ∧ i = .int .i64 k ∧ Hid (atX X f = atN X f k (X.length - k))) (fun i => X.length - (intOf i).toNat)
  case atStart => exact ⟨0, by omega, rfl, rfl⟩
  case round =>
    obtain ⟨k, hk, rfl, HR⟩ := hrel
    by_cases hlt : k < X.length
    · obtain ⟨g, rfl⟩ := HAG.out (by intro e; rw [e] at hlt; simp at hlt)
      obtain ⟨d0, d1, d2⟩ := on_cells hR.hv hlt
      have hfx := hR.hf _ (List.getElem_mem hlt)
      obtain ⟨y, hy⟩ : ∃ y, X[k].f = y := ⟨_, rfl⟩
      have HY := Lib.hid hy
      rw [hy] at d0 hfx
      clear hy d1 d2
      have hw8 : IntKind.i64.wrap (y + 8) = y + 8 := IntWalk.i64_in _ (by omega)
      by_cases h1 : y ≤ f
      · by_cases h2 : f < y + 8
        · have hF : Hid (atX X f = k) := by rw [Hid, HR.out, atN_hit (by omega) hlt (by rw [HY.out]; exact ⟨h1, h2⟩)]
          go_wp2
          go_ret
          exact ⟨ret_int hF.out.symm, rfl⟩
        · have hF : Hid (atX X f = atN X f (k + 1) (X.length - (k + 1))) := by rw [Hid, HR.out, atN_miss (by omega) hlt (by rw [HY.out]; exact fun h => h2 h.2), Nat.sub_sub]
          go_wp2
          go_round
          case rel => exact ⟨k + 1, by omega, by go_num, hF⟩
          case measure => simp [intOf]; omega
      · have hF : Hid (atX X f = atN X f (k + 1) (X.length - (k + 1))) := by rw [Hid, HR.out, atN_miss (by omega) hlt (by rw [HY.out]; exact fun h => h1 h.1), Nat.sub_sub]
        go_wp2
        go_round
        case rel => exact ⟨k + 1, by omega, by go_num, hF⟩
        case measure => simp [intOf]; omega
    · have e1 : Hid (atX X f = -1) := by rw [Hid, HR.out, show X.length - k = 0 by omega]; rfl
      go_wp2
      go_ret
      exact ⟨ret_int e1.out.symm, rfl⟩

def onV (f : Int) (g c : Nat) (s : Int) : Value := .agg #[.int .i64 f, .slice (some ⟨g, 0, none⟩) 8 c, .int .i64 s]

set_option maxHeartbeats 1000000 in
theorem many_any (B : Nat) (f : Int) (g c : Nat) (s : Int) (b : Nat) (w : World) (hO : OwnL boE w B 4 (.slice (some ⟨g, 0, none⟩) 8 c) (bl b)) :
    Calls Try.prog 18 #[onV f g c s] w fun e w' => e = .returned (.int .i64 (pcN b 8 : Nat)) ∧ Keep (fun _ => False) w w' := by
  have hO2 := Lib.hid (hO.keep ((Keep.refl (fun _ => False) w).alloc (.cells #[.int .i64 f, .slice (some ⟨g, 0, none⟩) 8 c, .int .i64 s] 51)) (fun _ _ => id))
  unfold onV
  go_enter Try.func18, Try.ntmps18
  go_wp2
  go_loop [3, 4] (fun n i => ∃ k : Nat, k ≤ 8 ∧ i = .int .i64 k ∧ n = .int .i64 (pcN b k : Nat)) (fun _ i => 8 - (intOf i).toNat)
  case atStart => exact ⟨0, by omega, rfl, rfl⟩
  case round =>
    obtain ⟨k, hk, rfl, rfl⟩ := hrel
    have hle := pcN_le b k
    by_cases hlt : k < 8
    · have d0 := bo_cell hO2.out hlt
      by_cases e : b / 2 ^ k % 2 = 1
      · have hF : Hid (pcN b (k + 1) = pcN b k + 1) := by unfold Hid; simp only [pcN]; rw [if_pos e]
        have e' : (b / 2 ^ k % 2 == 1) = true := by simpa using e
        rw [e'] at d0
        clear e e'
        go_wp2
        go_round
        case rel => exact ⟨k + 1, by omega, by go_num, by rw [hF.out]; go_num⟩
        case measure => simp [intOf]; omega
      · have hF : Hid (pcN b (k + 1) = pcN b k) := by unfold Hid; simp only [pcN]; rw [if_neg e]; rfl
        have e' : (b / 2 ^ k % 2 == 1) = false := by simpa using e
        rw [e'] at d0
        clear e e'
        go_wp2
        go_round
        case rel => exact ⟨k + 1, by omega, by go_num, by rw [hF.out]⟩
        case measure => simp [intOf]; omega
    · obtain rfl : k = 8 := by omega
      go_wp2
      go_ret
      exact ⟨rfl, (by (repeat (first | exact Keep.refl _ _ | exact Keep.refl _ _ | refine Keep.drew ?_ | refine Keep.drewN ?_ _ | refine Keep.alloc ?_ _ | refine Keep.setNew ?_ (by omega) _)); done)⟩

end Go.Proofs.Ytdomdjfecnbenaa
