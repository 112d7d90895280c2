/- Reservations: the reference's object; At, Of. -/
import Derived.Test.YtmbgebmhdofdaaaU
set_option linter.unusedVariables false
set_option linter.unusedSimpArgs false
namespace Go.Proofs.Ytmbgebmhdofdaaa
open Go.RowKit Go.Own

/-- A reservation of the reference: space, page, frame, the slice of its bits, when, (and the bits). -/
structure Ox where
  s : Int
  p : Int
  f : Int
  g : Nat
  c : Nat
  t : Int
  b : Nat
def ox0 : Ox := ⟨0, 0, 0, 0, 0, 0, 0⟩
def Ox.rv (x : Ox) : Rv := ⟨x.s, x.p, x.f, x.b⟩
def Ox.v (x : Ox) : Value := .slice (some ⟨x.g, 0, none⟩) 8 x.c
def oxE : Enc Ox where
  c := fun x => [.int .i64 x.s, .int .i64 x.p, .int .i64 x.f, x.v, .int .i64 x.t]
  k := 5
  hk := by decide
  len := fun _ => rfl
  one := fun x u hu => by simp at hu; rcases hu with rfl | rfl | rfl | rfl | rfl <;> rfl
def boE : Enc Bool where
  c := fun x => [.bool x]
  k := 1
  hk := by decide
  len := fun _ => rfl
  one := fun x u hu => by simp at hu; subst hu; rfl
def bl (b : Nat) : List Bool := [b / 1 % 2 == 1, b / 2 % 2 == 1, b / 4 % 2 == 1, b / 8 % 2 == 1, b / 16 % 2 == 1, b / 32 % 2 == 1, b / 64 % 2 == 1, b / 128 % 2 == 1]
theorem bl_len (b : Nat) : (bl b).length = 8 := rfl
theorem bl_at (b : Nat) {i : Nat} (hi : i < (bl b).length) : (bl b)[i] = (b / 2 ^ i % 2 == 1) := by
  have h : i < 8 := hi
  have : i = 0 ∨ i = 1 ∨ i = 2 ∨ i = 3 ∨ i = 4 ∨ i = 5 ∨ i = 6 ∨ i = 7 := by omega
  rcases this with rfl | rfl | rfl | rfl | rfl | rfl | rfl | rfl <;> rfl
theorem bl_or : ∀ b : Fin 256, ∀ j : Fin 8, bl (b.val ||| 2 ^ j.val) = (bl b.val).set j.val true := by decide +kernel
theorem bl_and : ∀ b : Fin 256, ∀ j : Fin 8, bl (b.val &&& (255 - 2 ^ j.val)) = (bl b.val).set j.val false := by decide +kernel
theorem bl_bit : ∀ b : Fin 256, ∀ j : Fin 8, (b.val / 2 ^ j.val % 2 == 1) = (b.val &&& 2 ^ j.val != 0) := by decide +kernel

theorem info53 : (Try.prog.info? 53).map (fun i => (i.zero, i.size, i.bytes)) = some (some (.agg #[.int .i64 0, .int .i64 0, .int .i64 0, .slice none 0 0, .int .i64 0]), 5, 56) := by kernel_rfl
theorem info4 : (Try.prog.info? 4).map (fun i => (i.zero, i.size, i.bytes)) = some (some (.bool false), 1, 1) := by kernel_rfl
theorem et46 : ET Try.prog 46 53 (.agg #[.int .i64 0, .int .i64 0, .int .i64 0, .slice none 0 0, .int .i64 0]) 5 56 := ⟨Try.underlying46, info53, rfl, by decide⟩
theorem et38 : ET Try.prog 38 4 (.bool false) 1 1 := ⟨Try.underlying38, info4, rfl, by decide⟩

structure RepX (w : World) (B q : Nat) (v : Value) (X : List Ox) (T : Int) : Prop where
  hp : w.heap[q]? = some (.cells #[v, .int .i64 T] 48 (0, 0))
  hv : OwnL oxE w B 53 v X
  hb : ∀ x, x ∈ X → OwnL boE w B 4 x.v (bl x.b)
  nq : v.ownBlock ≠ some q
  nb : ∀ x, x ∈ X → x.g ≠ q ∧ v.ownBlock ≠ some x.g
  hl : X.length ≤ 200
  hf : ∀ x, x ∈ X → 0 ≤ x.s ∧ 0 ≤ x.p ∧ x.p ≤ 4088 ∧ x.p % 8 = 0 ∧ 0 ≤ x.f ∧ x.f ≤ 1016 ∧ x.f % 8 = 0
  hc : ∀ x, x ∈ X → x.b < 256
  ht : 0 ≤ T ∧ T ≤ 100000

section
variable {w : World} {B q : Nat} {v : Value} {X : List Ox} {T : Int} (h : RepX w B q v X T)
include h
theorem RepX.c0 : w.cell? ⟨q, 0, none⟩ = some v := by rw [cell_block h.hp]; rfl
theorem RepX.c1 : w.cell? ⟨q, 1, none⟩ = some (.int .i64 T) := by rw [cell_block h.hp]; rfl
theorem RepX.keep {S : Nat → Prop} {w' : World} (k : Keep S w w') (hp : ¬ S q) (hv : ∀ x, v.ownBlock = some x → ¬ S x) (hx : ∀ x, x ∈ X → ¬ S x.g) : RepX w' B q v X T :=
  ⟨(k.block q (block_lt h.hp) hp).trans h.hp, h.hv.keep k hv, fun x m => (h.hb x m).keep k (fun y e => by simp [Ox.v, Value.ownBlock] at e; exact e ▸ hx x m), h.nq, h.nb, h.hl, h.hf, h.hc, h.ht⟩
theorem RepX.keep0 {w' : World} (k : Keep (fun _ => False) w w') : RepX w' B q v X T := h.keep k id (fun _ _ => id) (fun _ _ => id)
theorem RepX.glt {x : Ox} (m : x ∈ X) : B ≤ x.g ∧ x.g < w.heap.size := (h.hb x m).lt x.g rfl
end

theorem ox_cells {w : World} {B g n cap i : Nat} {X : List Ox} (h : OwnL oxE w B 53 (.slice (some ⟨g, 0, none⟩) n cap) X) (hi : i < X.length) :
    w.cell? ⟨g, i * 5, none⟩ = some (.int .i64 X[i].s) ∧ w.cell? ⟨g, i * 5 + 1, none⟩ = some (.int .i64 X[i].p) ∧ w.cell? ⟨g, i * 5 + 2, none⟩ = some (.int .i64 X[i].f) ∧ w.cell? ⟨g, i * 5 + 3, none⟩ = some (.slice (some ⟨X[i].g, 0, none⟩) 8 X[i].c) ∧ w.cell? ⟨g, i * 5 + 4, none⟩ = some (.int .i64 X[i].t) :=
  ⟨OwnL.cell (j := 0) h hi (by decide), OwnL.cell (j := 1) h hi (by decide), OwnL.cell (j := 2) h hi (by decide), OwnL.cell (j := 3) h hi (by decide), OwnL.cell (j := 4) h hi (by decide)⟩
/-- .. as a load of all of it spells them. -/
theorem ox_cells2 {w : World} {B g n cap i : Nat} {X : List Ox} (h : OwnL oxE w B 53 (.slice (some ⟨g, 0, none⟩) n cap) X) (hi : i < X.length) :
    w.cell? ⟨g, i * 5, none⟩ = some (.int .i64 X[i].s) ∧ w.cell? ⟨g, i * 5 + 1, none⟩ = some (.int .i64 X[i].p) ∧ w.cell? ⟨g, i * 5 + 1 + 1, none⟩ = some (.int .i64 X[i].f) ∧ w.cell? ⟨g, i * 5 + 1 + 1 + 1, none⟩ = some (.slice (some ⟨X[i].g, 0, none⟩) 8 X[i].c) ∧ w.cell? ⟨g, i * 5 + 1 + 1 + 1 + 1, none⟩ = some (.int .i64 X[i].t) := ox_cells h hi
theorem bo_cell {w : World} {B g n cap i b : Nat} (h : OwnL boE w B 4 (.slice (some ⟨g, 0, none⟩) n cap) (bl b)) (hi : i < 8) :
    w.cell? ⟨g, i, none⟩ = some (.bool (b / 2 ^ i % 2 == 1)) := by
  have h1 := OwnL.cell (j := 0) h (i := i) (show i < (bl b).length from hi) (by decide)
  have h2 := bl_at b (show i < (bl b).length from hi)
  simp only [h2] at h1
  simpa [boE] using h1

/-! ### The first place where a test holds -/
def fxN (q : Nat → Bool) : Nat → Nat → Int
  | _, 0 => -1
  | i, n + 1 => if q i = true then i else fxN q (i + 1) n
theorem fxN_hit {q : Nat → Bool} {i n : Nat} (h0 : 0 < n) (h : q i = true) : fxN q i n = i := by
  obtain ⟨m, rfl⟩ : ∃ m, n = m + 1 := ⟨n - 1, by omega⟩
  simp [fxN, h]
theorem fxN_miss {q : Nat → Bool} {i n : Nat} (h0 : 0 < n) (h : q i = false) : fxN q i n = fxN q (i + 1) (n - 1) := by
  obtain ⟨m, rfl⟩ : ∃ m, n = m + 1 := ⟨n - 1, by omega⟩
  simp [fxN, h]
theorem fxN_cases (q : Nat → Bool) : ∀ n i, (fxN q i n = -1 ∧ ∀ j, i ≤ j → j < i + n → q j = false) ∨ (∃ k : Nat, fxN q i n = k ∧ i ≤ k ∧ k < i + n ∧ q k = true ∧ ∀ j, i ≤ j → j < k → q j = false) := by
  intro n
  induction n with
  | zero => intro i; exact .inl ⟨rfl, fun j _ _ => by omega⟩
  | succ n ih =>
    intro i
    cases c : q i with
    | true => exact .inr ⟨i, fxN_hit (by omega) c, Nat.le_refl _, by omega, c, fun j _ _ => by omega⟩
    | false =>
      rw [fxN_miss (by omega) c, Nat.succ_sub_one]
      have step : ∀ j, i ≤ j → j = i ∨ i + 1 ≤ j := fun j _ => by omega
      rcases ih (i + 1) with ⟨h1, h2⟩ | ⟨k, h1, h2, h3, h4, h5⟩
      · refine .inl ⟨h1, fun j hj hl => ?_⟩
        rcases step j hj with rfl | h
        · exact c
        · exact h2 j h (by omega)
      · refine .inr ⟨k, h1, by omega, by omega, h4, fun j hj hl => ?_⟩
        rcases step j hj with rfl | h
        · exact c
        · exact h5 j h hl

def atQ (x : Ox) (s y : Int) : Bool := x.s == s && (decide (x.p ≤ y) && decide (y < x.p + 8))
def atX (X : List Ox) (s y : Int) : Int := fxN (fun i => atQ (X.getD i ox0) s y) 0 X.length
def ofQ (x : Ox) (f : Int) : Bool := decide (x.f ≤ f) && decide (f < x.f + 8)
def ofX (X : List Ox) (f : Int) : Int := fxN (fun i => ofQ (X.getD i ox0) f) 0 X.length

set_option maxRecDepth 100000 in
set_option maxHeartbeats 1000000 in
theorem at_any (B q : Nat) (v : Value) (X : List Ox) (T : Int) (s y : Int) (w : World) (hR : RepX w B q v X T) :
    Calls Try.prog 22 #[.pointer (some ⟨q, 0, none⟩), .int .i64 s, .int .i64 y] w fun e w' => e = .returned (.int .i64 (atX X s y)) ∧ w = w' := by
  have hc0 := hR.c0
  have hl := hR.hl
  obtain ⟨a, cap, rfl, hag⟩ := hR.hv.slice
  have HAG := Lib.hid hag
  clear hag
  go_enter Try.func22, Try.ntmps22
  go_wp2
  go_loop [7] (fun i => ∃ k : Nat, k ≤ X.length ∧ i = .int .i64 k ∧ Hid (atX X s y = fxN (fun i => atQ (X.getD i ox0) s y) k (X.length - k))) (fun i => X.length - (intOf i).toNat)
  case atStart => exact ⟨0, by omega, rfl, rfl⟩
  case round =>
    obtain ⟨k, hk, rfl, HR⟩ := hrel
    by_cases hlt : k < X.length
    · obtain ⟨g, rfl⟩ := HAG.out (by intro e; rw [e] at hlt; simp at hlt)
      obtain ⟨d0, d1, d2, d3, d4⟩ := ox_cells hR.hv hlt
      have hfx := hR.hf _ (List.getElem_mem hlt)
      have HD : Hid (X.getD k ox0 = X[k]) := by unfold Hid; simp [hlt]
      obtain ⟨z, hz⟩ : ∃ z, X[k].p = z := ⟨_, rfl⟩
      obtain ⟨zs, hzs⟩ : ∃ z, X[k].s = z := ⟨_, rfl⟩
      have HZ := Lib.hid hz
      have HZS := Lib.hid hzs
      rw [hz] at d1 hfx
      rw [hzs] at d0
      have hz1 := hfx.2.1
      have hz2 := hfx.2.2.1
      clear hz hzs d2 d3 d4 hfx
      have hw8 : IntKind.i64.wrap (z + 8) = z + 8 := IntWalk.i64_in _ (by omega)
      have hQ : Hid (atQ (X.getD k ox0) s y = (zs == s && (decide (z ≤ y) && decide (y < z + 8)))) := by unfold Hid; rw [HD.out]; unfold atQ; rw [HZ.out, HZS.out]
      obtain ⟨ts, hts⟩ : ∃ t, (zs == s) = t := ⟨_, rfl⟩
      by_cases h1 : z ≤ y
      · by_cases h2 : y < z + 8
        · cases ts with
          | true =>
            have hF : Hid (atX X s y = k) := by rw [Hid, HR.out, fxN_hit (by omega) (by rw [hQ.out, hts, decide_eq_true h1, decide_eq_true h2]; rfl)]
            go_wp2
            go_ret
            exact ⟨ret_int hF.out.symm, rfl⟩
          | false =>
            have hF : Hid (atX X s y = fxN (fun i => atQ (X.getD i ox0) s y) (k + 1) (X.length - (k + 1))) := by rw [Hid, HR.out, fxN_miss (by omega) (by rw [hQ.out, hts]; rfl), Nat.sub_sub]
            go_wp2
            go_round
            case rel => exact ⟨k + 1, by omega, by go_num, hF⟩
            case measure => simp [intOf]; omega
        · have hF : Hid (atX X s y = fxN (fun i => atQ (X.getD i ox0) s y) (k + 1) (X.length - (k + 1))) := by rw [Hid, HR.out, fxN_miss (by omega) (by rw [hQ.out, decide_eq_false h2]; simp), Nat.sub_sub]
          cases ts
          all_goals
            go_wp2
            go_round
            case rel => exact ⟨k + 1, by omega, by go_num, hF⟩
            case measure => simp [intOf]; omega
      · have hF : Hid (atX X s y = fxN (fun i => atQ (X.getD i ox0) s y) (k + 1) (X.length - (k + 1))) := by rw [Hid, HR.out, fxN_miss (by omega) (by rw [hQ.out, decide_eq_false h1]; simp), Nat.sub_sub]
        cases ts
        all_goals
          go_wp2
          go_round
          case rel => exact ⟨k + 1, by omega, by go_num, hF⟩
          case measure => simp [intOf]; omega
    · have e1 : Hid (atX X s y = -1) := by rw [Hid, HR.out, show X.length - k = 0 by omega]; rfl
      go_wp2
      go_ret
      exact ⟨ret_int e1.out.symm, rfl⟩

set_option maxRecDepth 100000 in
set_option maxHeartbeats 1000000 in
theorem of_at (B q : Nat) (v : Value) (X : List Ox) (T : Int) (f : Int) (w : World) (hR : RepX w B q v X T) :
    Calls Try.prog 44 #[.pointer (some ⟨q, 0, none⟩), .int .i64 f] w fun e w' => e = .returned (.int .i64 (ofX X f)) ∧ w = w' := by
  have hc0 := hR.c0
  have hl := hR.hl
  obtain ⟨a, cap, rfl, hag⟩ := hR.hv.slice
  have HAG := Lib.hid hag
  clear hag
  go_enter Try.func44, Try.ntmps44
  go_wp2
  go_loop [5] (fun i => ∃ k : Nat, k ≤ X.length ∧ i = .int .i64 k ∧ Hid (ofX X f = fxN (fun i => ofQ (X.getD i ox0) f) k (X.length - k))) (fun i => X.length - (intOf i).toNat)
  case atStart => exact ⟨0, by omega, rfl, rfl⟩
  case round =>
    obtain ⟨k, hk, rfl, HR⟩ := hrel
    by_cases hlt : k < X.length
    · obtain ⟨g, rfl⟩ := HAG.out (by intro e; rw [e] at hlt; simp at hlt)
      obtain ⟨d0, d1, d2, d3, d4⟩ := ox_cells hR.hv hlt
      have hfx := hR.hf _ (List.getElem_mem hlt)
      have HD : Hid (X.getD k ox0 = X[k]) := by unfold Hid; simp [hlt]
      obtain ⟨z, hz⟩ : ∃ z, X[k].f = z := ⟨_, rfl⟩
      have HZ := Lib.hid hz
      rw [hz] at d2 hfx
      have hz1 := hfx.2.2.2.2.1
      have hz2 := hfx.2.2.2.2.2.1
      clear hz d0 d1 d3 d4 hfx
      have hw8 : IntKind.i64.wrap (z + 8) = z + 8 := IntWalk.i64_in _ (by omega)
      have hQ : Hid (ofQ (X.getD k ox0) f = (decide (z ≤ f) && decide (f < z + 8))) := by unfold Hid; rw [HD.out]; unfold ofQ; rw [HZ.out]
      by_cases h1 : z ≤ f
      · by_cases h2 : f < z + 8
        · have hF : Hid (ofX X f = k) := by rw [Hid, HR.out, fxN_hit (by omega) (by rw [hQ.out, decide_eq_true h1, decide_eq_true h2]; rfl)]
          go_wp2
          go_ret
          exact ⟨ret_int hF.out.symm, rfl⟩
        · have hF : Hid (ofX X f = fxN (fun i => ofQ (X.getD i ox0) f) (k + 1) (X.length - (k + 1))) := by rw [Hid, HR.out, fxN_miss (by omega) (by rw [hQ.out, decide_eq_false h2]; simp), Nat.sub_sub]
          go_wp2
          go_round
          case rel => exact ⟨k + 1, by omega, by go_num, hF⟩
          case measure => simp [intOf]; omega
      · have hF : Hid (ofX X f = fxN (fun i => ofQ (X.getD i ox0) f) (k + 1) (X.length - (k + 1))) := by rw [Hid, HR.out, fxN_miss (by omega) (by rw [hQ.out, decide_eq_false h1]; simp), Nat.sub_sub]
        go_wp2
        go_round
        case rel => exact ⟨k + 1, by omega, by go_num, hF⟩
        case measure => simp [intOf]; omega
    · have e1 : Hid (ofX X f = -1) := by rw [Hid, HR.out, show X.length - k = 0 by omega]; rfl
      go_wp2
      go_ret
      exact ⟨ret_int e1.out.symm, rfl⟩

end Go.Proofs.Ytmbgebmhdofdaaa
