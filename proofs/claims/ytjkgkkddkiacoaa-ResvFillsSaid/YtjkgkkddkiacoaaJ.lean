/- ResvFills: the plain facts on eight bits, one reservation through its calls. -/
import Derived.Test.YtjkgkkddkiacoaaH
import Derived.Test.YtjkgkkddkiacoaaArgs
set_option linter.unusedVariables false
set_option linter.unusedSimpArgs false
namespace Go.Proofs.Ytjkgkkddkiacoaa
open Go.RowKit Go.Own

def rowM (m : Nat) : List Bool := [decide (m % 2 = 1), decide (m / 2 % 2 = 1), decide (m / 4 % 2 = 1), decide (m / 8 % 2 = 1), decide (m / 16 % 2 = 1), decide (m / 32 % 2 = 1), decide (m / 64 % 2 = 1), decide (m / 128 % 2 = 1)]
def gb (M : List Bool) (i : Nat) : Bool := M.getD i false

theorem bits8 : ∀ m : Fin 256, ∀ k : Fin 8, (gb (rowM m.val) k.val = true → m.val &&& 2 ^ k.val ≠ 0 ∧ m.val &&& (255 - 2 ^ k.val) < 256 ∧ rowM (m.val &&& (255 - 2 ^ k.val)) = (rowM m.val).set k.val false ∧ (m.val &&& (255 - 2 ^ k.val)) &&& 2 ^ k.val = 0) ∧
    (gb (rowM m.val) k.val = false → m.val &&& 2 ^ k.val = 0 ∧ m.val ||| 2 ^ k.val < 256 ∧ rowM (m.val ||| 2 ^ k.val) = (rowM m.val).set k.val true) ∧
    (gb (rowM m.val) k.val = false ↔ m.val / 2 ^ k.val % 2 = 0) := by decide +kernel

/-- How many of the first j are not met. -/
def cz (m : Nat) : Nat → Nat
  | 0 => 0
  | j + 1 => cz m j + if gb (rowM m) j = false then 1 else 0
theorem cz_le (m : Nat) : ∀ j, cz m j ≤ j := by
  intro j
  induction j with
  | zero => exact Nat.le_refl _
  | succ j ih => simp only [cz]; split <;> omega
theorem opN_cz (f : Int) (m : Nat) (hm : m < 256) : ∀ j, j ≤ 8 → (opN f m j).length = cz m j := by
  intro j
  induction j with
  | zero => intro _; rfl
  | succ j ih =>
    intro hj
    have h := (bits8 ⟨m, hm⟩ ⟨j, by omega⟩).2.2
    simp only at h
    simp only [opN, cz, List.length_append, ih (by omega)]
    by_cases e : m / 2 ^ j % 2 = 0
    · rw [if_pos e, if_pos (h.mpr e)]; rfl
    · rw [if_neg e, if_neg (fun h' => e (h.mp h'))]; rfl

def rowB (M : List Bool) : Obj := .cells (M.map Value.bool).toArray 4 (0, 0)
theorem cell_rowB {w : World} {q i : Nat} {M : List Bool} (h : w.heap[q]? = some (rowB M)) (hi : i < M.length) : w.cell? ⟨q, i, none⟩ = some (.bool (gb M i)) := by
  rw [cell_block h]; simp [gb, hi]
theorem heap_setCell_rowB {w : World} {q i : Nat} {M : List Bool} {v : Bool} (h : w.heap[q]? = some (rowB M)) : (w.setCell ⟨q, i, none⟩ (.bool v)).heap[q]? = some (rowB (M.set i v)) := by
  unfold rowB at h; rw [heap_setCell_eq h]; simp [rowB, List.map_set]

theorem info4 : (Try.prog.info? 4).map (fun i => (i.zero, i.size, i.bytes)) = some (some (.bool false), 1, 1) := by kernel_rfl
theorem et38 : ET Try.prog 38 4 (.bool false) 1 1 := ⟨Try.underlying38, info4, rfl, by decide⟩

theorem bytes_of_rows {w : World} {la : Option Addr} {l : Nat} (h : RowsAt w la l [.int .u8]) : ∃ A : List Nat, A.length = l ∧ ∀ i (h : i < A.length), A[i] < 256 ∧ ∃ b o, la = some ⟨b, o, none⟩ ∧ w.cell? ⟨b, o + i, none⟩ = some (.int .u8 A[i]) := by
  have h2 : ∀ i, i < l → ∃ x : Nat, x < 256 ∧ ∃ b o, la = some ⟨b, o, none⟩ ∧ w.cell? ⟨b, o + i, none⟩ = some (.int .u8 x) := by
    intro i hi
    obtain ⟨b, o, cs, ha, hf, hc⟩ := h i hi
    have hl := hf.length
    obtain ⟨c0, rfl⟩ : ∃ c0, cs = [c0] := by
      rcases cs with _ | ⟨c0, _ | ⟨c1, cs⟩⟩ <;> simp at hl
      exact ⟨c0, rfl⟩
    obtain ⟨⟨f, rfl, hw⟩, _⟩ := hf
    have h0 := hc 0 (by decide)
    simp only [List.length_cons, List.length_nil, Nat.reduceAdd, Nat.mul_one, Nat.add_zero, List.getElem?_cons_zero] at h0
    have hw' : 0 ≤ f ∧ f ≤ 255 := by simpa [Lit.wf, IntKind.min, IntKind.max, IntKind.signed, IntKind.bits] using hw
    obtain ⟨x, rfl⟩ := Int.eq_ofNat_of_zero_le hw'.1
    exact ⟨x, by omega, b, o, ha, h0⟩
  obtain ⟨F, hF⟩ := Deep.choose_lt h2
  exact ⟨(List.range l).map F, by simp, fun i hi => by
    have := hF i (by simpa using hi)
    simpa using this⟩

structure Fi (w0 w : World) (p st : Nat) (sp a f m : Nat) (M : List Bool) (v : Value) : Prop where
  m8 : m < 256
  rep : RepR w w0.heap.size p v [⟨sp, a, f, m⟩]
  met : w.heap[st]? = some (rowB M)
  vs : v.ownBlock ≠ some st
  ps : st ≠ p
  pB : w0.heap.size ≤ p
  sB : w0.heap.size ≤ st
  kp : Keep (fun _ => False) w0 w

section
variable {w0 w : World} {p st sp a f m k : Nat} {M : List Bool} {v : Value}
theorem Fi.keep0 {w' : World} (h : Fi w0 w p st sp a f m M v) (hk : Keep (fun _ => False) w w') : Fi w0 w' p st sp a f m M v :=
  ⟨h.m8, h.rep.keep0 hk, (hk.block _ (block_lt h.met) id).trans h.met, h.vs, h.ps, h.pB, h.sB, h.kp.trans hk⟩
theorem Fi.step {w' : World} {m' : Nat} {v' : Value} (h : Fi w0 w p st sp a f m M v) (m8 : m' < 256) (hR : RepR w' w0.heap.size p v' [⟨sp, a, f, m'⟩]) (hk : Keep (fun z => z = p) w w') (hv : ∀ z, v'.ownBlock = some z → w.heap.size ≤ z) : Fi w0 w' p st sp a f m' M v' := by
  have hsl := block_lt h.met
  have hps := h.ps
  have hpB := h.pB
  refine ⟨m8, hR, (hk.block st hsl hps).trans h.met, fun e => by have := hv _ e; omega, h.ps, h.pB, h.sB, ?_⟩
  exact Keep.fresh (B := w0.heap.size) ((h.kp.mono (T := fun x => w0.heap.size ≤ x) (fun _ _ h => h.elim)).trans (hk.mono (T := fun x => w0.heap.size ≤ x) (fun x _ e => by rw [e]; exact hpB))) (fun _ h => h) (Nat.le_refl _)
theorem Fi.mark (h : Fi w0 w p st sp a f m M v) (k : Nat) (t : Bool) : Fi w0 (w.setCell ⟨st, k, none⟩ (.bool t)) p st sp a f m (M.set k t) v := by
  have KP := (Keep.refl (fun x => x = st) w).setCell (p := ⟨st, k, none⟩) (fun _ => rfl) (.bool t)
  refine ⟨h.m8, h.rep.keep KP (Ne.symm h.ps) (fun x hx e => h.vs (e ▸ hx)), heap_setCell_rowB h.met, h.vs, h.ps, h.pB, h.sB, ?_⟩
  exact Keep.fresh (B := w0.heap.size) ((h.kp.mono (T := fun x => w0.heap.size ≤ x) (fun _ _ h => h.elim)).trans (KP.mono (T := fun x => w0.heap.size ≤ x) (fun x _ e => by rw [e]; exact h.sB))) (fun _ h => h) (Nat.le_refl _)

variable (ha : a / 8 * 8 = a) (hax : a ≤ 1000) (hfx : f ≤ 1000) (hk : k < 8)
include ha hax hfx hk
theorem fi_dup (h : Fi w0 w p st sp a f m M v) (hb : gb (rowM m) k = true) :
    Calls Try.prog 14 #[.pointer (some ⟨p, 0, none⟩), .int .i64 (sp : Int), .int .i64 ((a : Int) + (k : Int))] w fun e w' => e = .returned (.tuple #[.int .i64 0, .int .i64 7]) ∧ Fi w0 w' p st sp a f m M v := by
  rw [show (a : Int) + (k : Int) = ((a + k : Nat) : Int) by simp]
  have e1 : (a + k) / 8 * 8 = a := by omega
  have e2 : (a + k) % 8 = k := by omega
  refine (fill_dup _ p v ⟨sp, a, f, m⟩ (a + k) (by omega) (by rw [e1]) (by simp only; omega) h.m8 w h.kp.size h.rep (by rw [e2]; exact ((bits8 ⟨m, h.m8⟩ ⟨k, hk⟩).1 hb).1)).mono ?_
  rintro e w1 ⟨rfl, hk1⟩
  exact ⟨rfl, h.keep0 hk1⟩
theorem fi_clear (h : Fi w0 w p st sp a f m M v) (hb : gb (rowM m) k = true) :
    Calls Try.prog 15 #[.pointer (some ⟨p, 0, none⟩), .int .i64 (sp : Int), .int .i64 ((a : Int) + (k : Int))] w fun e w' => ∃ v', e = .returned (.int .i64 0) ∧ Fi w0 w' p st sp a f (m &&& (255 - 2 ^ k)) M v' := by
  rw [show (a : Int) + (k : Int) = ((a + k : Nat) : Int) by simp]
  have e1 : (a + k) / 8 * 8 = a := by omega
  have e2 : (a + k) % 8 = k := by omega
  have hbb := (bits8 ⟨m, h.m8⟩ ⟨k, hk⟩).1 hb
  refine (clear_yes _ p v ⟨sp, a, f, m⟩ (a + k) (by omega) (by rw [e1]) (by simp only; omega) h.m8 w h.kp.size h.rep (by rw [e2]; exact hbb.1)).mono ?_
  rw [e2]
  rintro e w1 ⟨v', rfl, hR, hk1, hv⟩
  exact ⟨v', rfl, h.step hbb.2.1 hR hk1 hv⟩
theorem fi_not (h : Fi w0 w p st sp a f m M v) (hb : m &&& 2 ^ k = 0) :
    Calls Try.prog 15 #[.pointer (some ⟨p, 0, none⟩), .int .i64 (sp : Int), .int .i64 ((a : Int) + (k : Int))] w fun e w' => e = .returned (.int .i64 6) ∧ Fi w0 w' p st sp a f m M v := by
  rw [show (a : Int) + (k : Int) = ((a + k : Nat) : Int) by simp]
  have e1 : (a + k) / 8 * 8 = a := by omega
  have e2 : (a + k) % 8 = k := by omega
  refine (clear_no _ p v ⟨sp, a, f, m⟩ (a + k) (by omega) (by rw [e1]) (by simp only; omega) h.m8 w h.kp.size h.rep (by rw [e2]; exact hb)).mono ?_
  rintro e w1 ⟨rfl, hk1⟩
  exact ⟨rfl, h.keep0 hk1⟩
theorem fi_new (h : Fi w0 w p st sp a f m M v) (hb : gb (rowM m) k = false) :
    Calls Try.prog 14 #[.pointer (some ⟨p, 0, none⟩), .int .i64 (sp : Int), .int .i64 ((a : Int) + (k : Int))] w fun e w' => ∃ v', e = .returned (.tuple #[.int .i64 ((f : Int) + (k : Int)), .int .i64 0]) ∧ Fi w0 w' p st sp a f (m ||| 2 ^ k) M v' := by
  rw [show (a : Int) + (k : Int) = ((a + k : Nat) : Int) by simp]
  have e1 : (a + k) / 8 * 8 = a := by omega
  have e2 : (a + k) % 8 = k := by omega
  have hbb := (bits8 ⟨m, h.m8⟩ ⟨k, hk⟩).2.1 hb
  refine (fill_new _ p v ⟨sp, a, f, m⟩ (a + k) (by omega) (by rw [e1]) (by simp only; omega) h.m8 w h.kp.size h.rep (by rw [e2]; exact hbb.1)).mono ?_
  rw [e2, show (f : Int) + ((a + k : Nat) : Int) - (a : Int) = (f : Int) + (k : Int) by simp; omega]
  rintro e w1 ⟨v', rfl, hR, hk1, hv⟩
  exact ⟨v', rfl, h.step hbb.2.1 hR hk1 hv⟩
end

end Go.Proofs.Ytjkgkkddkiacoaa
