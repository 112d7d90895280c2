/- CompoundAll: the plain facts on eight bits, and the walk. -/
import Derived.Test.YtdomdjfecnbenaaI
import Derived.Test.YtdomdjfecnbenaaArgs
import Derived.OwnWalk
set_option linter.unusedVariables false
set_option linter.unusedSimpArgs false
namespace Go.Proofs.Ytdomdjfecnbenaa
open Go.RowKit Go.Own

def pc (m : Nat) : Nat := m % 2 + m / 2 % 2 + m / 4 % 2 + m / 8 % 2 + m / 16 % 2 + m / 32 % 2 + m / 64 % 2 + m / 128 % 2
def rowM (m : Nat) : List Bool := [decide (m % 2 = 1), decide (m / 2 % 2 = 1), decide (m / 4 % 2 = 1), decide (m / 8 % 2 = 1), decide (m / 16 % 2 = 1), decide (m / 32 % 2 = 1), decide (m / 64 % 2 = 1), decide (m / 128 % 2 = 1)]
def gb (M : List Bool) (i : Nat) : Bool := M.getD i false

theorem bits8 : ∀ m : Fin 256, ∀ k : Fin 8, (gb (rowM m.val) k.val = true → m.val &&& 2 ^ k.val ≠ 0) ∧
    (gb (rowM m.val) k.val = false → m.val &&& 2 ^ k.val = 0 ∧ m.val ||| 2 ^ k.val < 256 ∧ pc (m.val ||| 2 ^ k.val) = pc m.val + 1 ∧ rowM (m.val ||| 2 ^ k.val) = (rowM m.val).set k.val true ∧ m.val ≠ 255) := by decide +kernel
theorem pc8 : ∀ m : Fin 256, (pc m.val = 8 ↔ m.val = 255) ∧ pc m.val ≤ 8 := by decide +kernel

def rowB (M : List Bool) : Obj := .cells (M.map Value.bool).toArray 4 (0, 0)
theorem cell_rowB {w : World} {q i : Nat} {M : List Bool} (h : w.heap[q]? = some (rowB M)) (hi : i < M.length) : w.cell? ⟨q, i, none⟩ = some (.bool (gb M i)) := by
  rw [cell_block h]; simp [gb, hi]
theorem heap_setCell_rowB {w : World} {q i : Nat} {M : List Bool} {v : Bool} (h : w.heap[q]? = some (rowB M)) : (w.setCell ⟨q, i, none⟩ (.bool v)).heap[q]? = some (rowB (M.set i v)) := by
  unfold rowB at h; rw [heap_setCell_eq h]; simp [rowB, List.map_set]

theorem info4 : (Try.prog.info? 4).map (fun i => (i.zero, i.size, i.bytes)) = some (some (.bool false), 1, 1) := by kernel_rfl
theorem et28 : ET Try.prog 28 4 (.bool false) 1 1 := ⟨Try.underlying28, info4, rfl, by decide⟩

theorem bytes_of_rows {w : World} {la : Option Addr} {l : Nat} (h : RowsAt w la l [.int .u8]) : ∃ A : List Nat, A.length = l ∧ ∀ i (h : i < A.length), A[i] < 256 ∧ ∃ b o, la = some ⟨b, o, none⟩ ∧ w.cell? ⟨b, o + i, none⟩ = some (.int .u8 A[i]) := by
  have h2 : ∀ i, i < l → ∃ x : Nat, x < 256 ∧ ∃ b o, la = some ⟨b, o, none⟩ ∧ w.cell? ⟨b, o + i, none⟩ = some (.int .u8 x) := by
    intro i hi
    obtain ⟨b, o, cs, ha, hf, hc⟩ := h i hi
    have hl := hf.length
    obtain ⟨c0, rfl⟩ : ∃ c0, cs = [c0] := by
      rcases cs with _ | ⟨c0, _ | ⟨c1, cs⟩⟩ <;> simp at hl
      exact ⟨c0, rfl⟩
    obtain ⟨⟨f, rfl, hw⟩, _⟩ := hf
    have h0 := hc 0 (by decide)
    simp only [List.length_cons, List.length_nil, Nat.reduceAdd, Nat.mul_one, Nat.add_zero, List.getElem?_cons_zero] at h0
    have hw' : 0 ≤ f ∧ f ≤ 255 := by simpa [Lit.wf, IntKind.min, IntKind.max, IntKind.signed, IntKind.bits] using hw
    obtain ⟨x, rfl⟩ := Int.eq_ofNat_of_zero_le hw'.1
    exact ⟨x, by omega, b, o, ha, h0⟩
  obtain ⟨F, hF⟩ := Deep.choose_lt h2
  exact ⟨(List.range l).map F, by simp, fun i hi => by
    have := hF i (by simpa using hi)
    simpa using this⟩

def Qm (at' m : Nat) : List Int := if m = 0 then [] else [(at' : Int)]

structure Al (w0 w : World) (p st : Nat) (at' m : Nat) (M : List Bool) (v u : Value) (Q : List Int) : Prop where
  m8 : m < 256
  one : m < 255 → Q = Qm at' m
  rep : RepC w w0.heap.size p v u (if m = 255 then [] else [⟨at', m⟩]) Q
  met : w.heap[st]? = some (rowB M)
  vs : v.ownBlock ≠ some st
  us : u.ownBlock ≠ some st
  ps : st ≠ p
  pB : w0.heap.size ≤ p
  sB : w0.heap.size ≤ st
  kp : Keep (fun _ => False) w0 w

section
variable {w0 w : World} {p st at' m k : Nat} {M : List Bool} {v u : Value} {Q : List Int}
theorem Al.keep0 {w' : World} (h : Al w0 w p st at' m M v u Q) (hk : Keep (fun _ => False) w w') : Al w0 w' p st at' m M v u Q :=
  ⟨h.m8, h.one, h.rep.keep0 hk, (hk.block _ (block_lt h.met) id).trans h.met, h.vs, h.us, h.ps, h.pB, h.sB, h.kp.trans hk⟩

theorem Al.step {w' : World} {m' : Nat} {v' u' : Value} {Q' : List Int} (h : Al w0 w p st at' m M v u Q) (m8 : m' < 256) (one : m' < 255 → Q' = Qm at' m') (hR : RepC w' w0.heap.size p v' u' (if m' = 255 then [] else [⟨at', m'⟩]) Q')
    (hk : Keep (fun y => y = p ∨ v.ownBlock = some y) w w') (hv : ∀ y, v'.ownBlock = some y → v.ownBlock = some y ∨ w.heap.size ≤ y) (hu : ∀ y, u'.ownBlock = some y → u.ownBlock = some y ∨ w.heap.size ≤ y) : Al w0 w' p st at' m' M v' u' Q' := by
  have hsl := block_lt h.met
  have hvs := h.vs
  have hus := h.us
  have hps := h.ps
  have hpB := h.pB
  have hlt := h.rep.hv.lt
  refine ⟨m8, one, hR, (hk.block st hsl (fun e => ?_)).trans h.met, fun e => ?_, fun e => ?_, h.ps, h.pB, h.sB, ?_⟩
  · rcases e with e | e
    · exact hps e
    · exact hvs e
  · rcases hv _ e with e | e
    · exact hvs e
    · omega
  · rcases hu _ e with e | e
    · exact hus e
    · omega
  · refine Keep.fresh (B := w0.heap.size) ((h.kp.mono (T := fun x => w0.heap.size ≤ x) (fun _ _ h => h.elim)).trans (hk.mono (T := fun x => w0.heap.size ≤ x) (fun x _ e => ?_))) (fun _ h => h) (Nat.le_refl _)
    rcases e with rfl | e
    · exact hpB
    · exact (hlt x e).1

theorem Al.mark (h : Al w0 w p st at' m M v u Q) (k : Nat) : Al w0 (w.setCell ⟨st, k, none⟩ (.bool true)) p st at' m (M.set k true) v u Q := by
  have KP := (Keep.refl (fun x => x = st) w).setCell (p := ⟨st, k, none⟩) (fun _ => rfl) (.bool true)
  refine ⟨h.m8, h.one, h.rep.keep KP (Ne.symm h.ps) (fun x hx e => h.vs (e ▸ hx)) (fun x hx e => h.us (e ▸ hx)), heap_setCell_rowB h.met, h.vs, h.us, h.ps, h.pB, h.sB, ?_⟩
  exact Keep.fresh (B := w0.heap.size) ((h.kp.mono (T := fun x => w0.heap.size ≤ x) (fun _ _ h => h.elim)).trans (KP.mono (T := fun x => w0.heap.size ≤ x) (fun x _ e => by rw [e]; exact h.sB))) (fun _ h => h) (Nat.le_refl _)

theorem wh_one (at' m : Nat) : whI [⟨at', m⟩] (at' : Int) = (0 : Nat) := by simp [whI, whN]

theorem al_end (h : Al w0 w p st at' m M v u Q) (ha : at' / 8 * 8 = at') (hx : at' ≤ 1016) (hk : k < 8) (hm : m = 255) :
    Calls Try.prog 11 #[.pointer (some ⟨p, 0, none⟩), .int .i64 ((at' : Int) + (k : Int))] w fun e w' => e = .returned (.tuple #[.bool false, .int .i64 6]) ∧ Al w0 w' p st at' m M v u Q := by
  rw [show (at' : Int) + (k : Int) = ((at' + k : Nat) : Int) by simp]
  have hR := h.rep
  rw [if_pos hm] at hR
  refine (lose_no _ p v u [] Q (at' + k) (by omega) w hR (wh_nil _)).mono ?_
  rintro e w1 ⟨rfl, hk1⟩
  exact ⟨rfl, h.keep0 hk1⟩

theorem al_again (h : Al w0 w p st at' m M v u Q) (ha : at' / 8 * 8 = at') (hx : at' ≤ 1016) (hk : k < 8) (hm : m ≠ 255) (hb : gb (rowM m) k = true) :
    Calls Try.prog 11 #[.pointer (some ⟨p, 0, none⟩), .int .i64 ((at' : Int) + (k : Int))] w fun e w' => e = .returned (.tuple #[.bool false, .int .i64 7]) ∧ Al w0 w' p st at' m M v u Q := by
  rw [show (at' : Int) + (k : Int) = ((at' + k : Nat) : Int) by simp]
  have hR := h.rep
  rw [if_neg hm] at hR
  have e1 : (at' + k) / 8 * 8 = at' := by omega
  have e2 : (at' + k) % 8 = k := by omega
  refine (lose_dup _ p v u [⟨at', m⟩] Q (at' + k) 0 (by omega) w hR (by rw [e1]; exact wh_one at' m) (by simp) (by rw [e2]; exact (bits8 ⟨m, h.m8⟩ ⟨k, hk⟩).1 hb)).mono ?_
  rintro e w1 ⟨rfl, hk1⟩
  exact ⟨rfl, h.keep0 hk1⟩

theorem al_new (h : Al w0 w p st at' m M v u Q) (ha : at' / 8 * 8 = at') (hx : at' ≤ 1016) (hk : k < 8) (hm : m ≠ 255) (hb : gb (rowM m) k = false) :
    Calls Try.prog 11 #[.pointer (some ⟨p, 0, none⟩), .int .i64 ((at' : Int) + (k : Int))] w fun e w' => ∃ v' u' Q', e = .returned (.tuple #[.bool (decide (m ||| 2 ^ k = 255)), .int .i64 0]) ∧ Al w0 w' p st at' (m ||| 2 ^ k) M v' u' Q' := by
  rw [show (at' : Int) + (k : Int) = ((at' + k : Nat) : Int) by simp]
  have hR := h.rep
  rw [if_neg hm] at hR
  have hm8 := h.m8
  have e1 : (at' + k) / 8 * 8 = at' := by omega
  have e2 : (at' + k) % 8 = k := by omega
  obtain ⟨f1, f2, f3, f4, f5⟩ := (bits8 ⟨m, h.m8⟩ ⟨k, hk⟩).2 hb
  simp only at f1 f2 f3 f4 f5
  have hQ := h.one (by omega)
  have hBw : w0.heap.size ≤ w.heap.size := h.kp.size
  by_cases h0 : m = 0
  · subst h0
    have hQ0 : Q = [] := by rw [hQ]; rfl
    subst hQ0
    refine (lose_first _ p v u [⟨at', 0⟩] [] (at' + k) 0 (by omega) w hBw hR (by rw [e1]; exact wh_one at' 0) (by simp) rfl (by simp)).mono ?_
    rw [e2]
    rintro e w1 ⟨u', rfl, hR1, hk1, hu1⟩
    have hp8 : 2 ^ k < 255 := by
      have := Nat.pow_le_pow_right (show 0 < 2 by decide) (show k ≤ 7 by omega)
      omega
    have hpos : 2 ^ k ≠ 0 := Nat.pos_iff_ne_zero.mp (Nat.pow_pos (by decide))
    rw [Nat.zero_or]
    refine ⟨v, u', [(at' : Int)], ?_, h.step (by omega) (fun _ => by unfold Qm; rw [if_neg hpos]) ?_ hk1 (fun y hy => .inl hy) (fun y hy => .inr (hu1 y hy))⟩
    · rw [decide_eq_false (by omega)]
    · rw [if_neg (by omega)]; exact hR1
  · refine (lose_more _ p v u [⟨at', m⟩] Q (at' + k) 0 (by omega) w hBw hR (by rw [e1]; exact wh_one at' m) (by simp) (by rw [e2]; exact f1) h0).mono ?_
    rintro e w1 ⟨v', u', L', Q', whole, rfl, hL, hR1, hk1, hv1, hu1⟩
    have hLa := hL.a
    have hLb := hL.b
    simp only [List.getElem_cons_zero, e2] at hLa hLb
    by_cases h5 : m ||| 2 ^ k = 255
    · obtain ⟨rfl, rfl, -⟩ := hLa h5
      refine ⟨v', u', Q', ?_, h.step f2 (fun hh => by omega) ?_ hk1 hv1 hu1⟩
      · rw [decide_eq_true h5]
      · rw [if_pos h5]; exact hR1
    · obtain ⟨rfl, rfl, hq⟩ := hLb h5
      rw [if_neg h0] at hq
      refine ⟨v', u', Q', ?_, h.step f2 (fun hh => ?_) ?_ hk1 hv1 hu1⟩
      · rw [decide_eq_false h5]
      · have hne : m ||| 2 ^ k ≠ 0 := by
          intro e
          have := f3
          rw [e] at this
          simp [pc] at this
        rw [hq, hQ]; unfold Qm; rw [if_neg h0, if_neg hne]
      · rw [if_neg h5]; exact hR1
end

end Go.Proofs.Ytdomdjfecnbenaa
