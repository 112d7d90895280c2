/- Arguments of flat types (ints, bools, structs of these), and slices of such: what their readings say of the cells. -/
import Derived.ProofKit
import Derived.Deep.Slices
import Derived.Below
namespace Go.Own
open Go.ChangeShapes Go.WideShapes Go.Deep

theorem wf64 {n : Int} (h : (Lit.int .i64 n).wf = true) : -9223372036854775808 ≤ n ∧ n ≤ 9223372036854775807 := by
  simpa [Lit.wf, IntKind.min, IntKind.max, IntKind.signed, IntKind.bits] using h

/-- What a cell of an argument may be: an integer, a bool, a slice. -/
inductive FK where
  | int (k : IntKind)
  | bool
  | slice (t : TypeId)

/-- The cells of a type, in order. -/
def flatK (P : Program) : Nat → TypeId → Option (List FK)
  | 0, _ => none
  | n + 1, t => match P.underlying t with
    | some (.int k) => some [.int k]
    | some .bool => some [.bool]
    | some (.slice _) => some [.slice t]
    | some (.struct fs) =>
      (fs.toList.foldl (fun acc f => acc.bind fun l => (flatK P n f.type).bind fun m => if f.offset = l.length ∧ P.cellsOf f.type = m.length then some (l ++ m) else none) (some [])).bind fun l =>
        if P.cellsOf t = l.length then some l else none
    | _ => none

def FlatV (Sl : TypeId → Value → Prop) : List FK → List Value → Prop
  | [], [] => True
  | .int k :: ks, v :: vs => (∃ n, v = .int k n ∧ (Lit.int k n).wf = true) ∧ FlatV Sl ks vs
  | .bool :: ks, v :: vs => (∃ b, v = .bool b) ∧ FlatV Sl ks vs
  | .slice t :: ks, v :: vs => Sl t v ∧ FlatV Sl ks vs
  | _, _ => False

theorem FlatV.length {Sl : TypeId → Value → Prop} {ks : List FK} {vs : List Value} (h : FlatV Sl ks vs) : vs.length = ks.length := by
  induction ks generalizing vs with
  | nil => cases vs with
    | nil => rfl
    | cons v vs => exact h.elim
  | cons k ks ih => cases vs with
    | nil => cases k <;> exact h.elim
    | cons v vs => cases k <;> (simp only [FlatV] at h; simp [ih h.2])

theorem FlatV.append {Sl : TypeId → Value → Prop} {ks ls : List FK} {vs us : List Value} (h : FlatV Sl ks vs) (g : FlatV Sl ls us) : FlatV Sl (ks ++ ls) (vs ++ us) := by
  induction ks generalizing vs with
  | nil => cases vs with
    | nil => exact g
    | cons v vs => exact h.elim
  | cons k ks ih => cases vs with
    | nil => cases k <;> exact h.elim
    | cons v vs => cases k <;> (simp only [FlatV, List.cons_append] at h ⊢; exact ⟨h.1, ih h.2⟩)

section
variable {H : Type} {enc : TypeId × Value → H} {P : Program} {w : World} {base : Nat} {spare : Nat → Bool} {held : Bool}

/-- A slice that can be read. -/
def SlT (enc : TypeId × Value → H) (P : Program) (w : World) (base : Nat) (spare : Nat → Bool) (held : Bool) (t : TypeId) (v : Value) : Prop :=
  ∃ fuel x, DataW.trod enc P w base spare held fuel t [v] = some x

theorem flat_fields {n m : Nat} {cs : List Value}
    (ih : ∀ t ks cs x, flatK P n t = some ks → DataW.trod enc P w base spare held m t cs = some x → FlatV (SlT enc P w base spare held) ks cs) :
    ∀ (rest : List Field) (l ks : List FK),
      (∀ f, f ∈ rest → ∃ y, DataW.trod enc P w base spare held m f.type ((cs.drop f.offset).take (P.cellsOf f.type)) = some y) →
      FlatV (SlT enc P w base spare held) l (cs.take l.length) →
      rest.foldl (fun acc f => acc.bind fun l => (flatK P n f.type).bind fun m => if f.offset = l.length ∧ P.cellsOf f.type = m.length then some (l ++ m) else none) (some l) = some ks →
      FlatV (SlT enc P w base spare held) ks (cs.take ks.length) := by
  intro rest
  induction rest with
  | nil => intro l ks _ h1 h2; simp only [List.foldl_nil, Option.some.injEq] at h2; subst h2; exact h1
  | cons f rest ihr =>
    intro l ks hf h1 h2
    simp only [List.foldl_cons, Option.bind_some] at h2
    cases hk : flatK P n f.type with
    | none =>
      rw [hk, Option.bind_none] at h2
      have : ∀ (r : List Field), r.foldl (fun acc f => acc.bind fun l => (flatK P n f.type).bind fun m => if f.offset = l.length ∧ P.cellsOf f.type = m.length then some (l ++ m) else none) none = none := by
        intro r
        induction r with
        | nil => rfl
        | cons _ _ ih => simpa using ih
      rw [this] at h2; cases h2
    | some mm =>
      rw [hk, Option.bind_some] at h2
      by_cases hc : f.offset = l.length ∧ P.cellsOf f.type = mm.length
      · rw [if_pos hc] at h2
        obtain ⟨y, hy⟩ := hf f (List.mem_cons_self ..)
        have h3 := ih _ _ _ _ hk hy
        rw [hc.1, hc.2] at h3
        refine ihr (l ++ mm) ks (fun g hg => hf g (List.mem_cons_of_mem _ hg)) ?_ h2
        have h4 := h1.append h3
        rw [List.length_append, List.take_add]
        exact h4
      · rw [if_neg hc] at h2
        have : ∀ (r : List Field), r.foldl (fun acc f => acc.bind fun l => (flatK P n f.type).bind fun m => if f.offset = l.length ∧ P.cellsOf f.type = m.length then some (l ++ m) else none) none = none := by
          intro r
          induction r with
          | nil => rfl
          | cons _ _ ih => simpa using ih
        rw [this] at h2; cases h2

theorem flat_trod : ∀ (n : Nat) (fuel : Nat) (t : TypeId) (ks : List FK) (cs : List Value) (x : DataW H × List MemPlace),
    flatK P n t = some ks → DataW.trod enc P w base spare held fuel t cs = some x → FlatV (SlT enc P w base spare held) ks cs := by
  intro n
  induction n with
  | zero => intro _ _ _ _ _ h; cases h
  | succ n ih =>
    intro fuel t ks cs x hk h
    unfold flatK at hk
    cases hu : P.underlying t with
    | none => rw [hu] at hk; cases hk
    | some u =>
      rw [hu] at hk
      cases u with
      | int k =>
        simp only [Option.some.injEq] at hk; subst hk
        obtain ⟨m, rfl, _, hw⟩ := DataW.trod_int hu h
        exact ⟨⟨m, rfl, hw⟩, trivial⟩
      | bool =>
        simp only [Option.some.injEq] at hk; subst hk
        obtain ⟨b, rfl, _⟩ := DataW.trod_bool hu h
        exact ⟨⟨b, rfl⟩, trivial⟩
      | slice e =>
        simp only [Option.some.injEq] at hk; subst hk
        rcases DataW.trod_slice hu h with ⟨rfl, _⟩ | ⟨_, _, _, _, _, _, _, rfl, _⟩ <;> exact ⟨⟨_, _, h⟩, trivial⟩
      | struct fs =>
        simp only at hk
        obtain ⟨xs, m, rfl, _, hlen, hxs, hf⟩ := DataW.trod_struct hu h
        rw [Option.bind_eq_some_iff] at hk
        obtain ⟨l, hl, hk⟩ := hk
        by_cases hc : P.cellsOf t = l.length
        · rw [if_pos hc] at hk
          simp only [Option.some.injEq] at hk; subst hk
          have := flat_fields (cs := cs) (fun t ks cs x h1 h2 => ih m t ks cs x h1 h2) fs.toList [] l (fun f hf' => by
            obtain ⟨i, hi⟩ := List.getElem?_of_mem hf'
            have hi' : fs[i]? = some f := by simpa using hi
            have := hf i f hi'
            have hlt : i < fs.size := by
              rcases Nat.lt_or_ge i fs.size with h1 | h1
              · exact h1
              · rw [Array.getElem?_eq_none h1] at hi'; cases hi'
            exact ⟨_, this.trans (List.getElem?_eq_getElem (by omega))⟩) (by simp [FlatV]) hl
          rwa [List.take_of_length_le (by omega)] at this
        · rw [if_neg hc] at hk; cases hk
      | _ => cases hk

/-- The slice's elements, each a row of flat cells. -/
def RowsAt (w : World) (a : Option Addr) (len : Nat) (ks : List FK) : Prop :=
  ∀ i, i < len → ∃ b o cs, a = some ⟨b, o, none⟩ ∧ FlatV (fun _ _ => False) ks cs ∧ ∀ j, j < ks.length → w.cell? ⟨b, o + (i * ks.length + j), none⟩ = cs[j]?

/-- No slice among the kinds. -/
def noSlice : List FK → Bool
  | [] => true
  | .slice _ :: _ => false
  | _ :: r => noSlice r
theorem FlatV.plain {Sl Sl' : TypeId → Value → Prop} {ks : List FK} {vs : List Value} (hn : noSlice ks = true) (h : FlatV Sl ks vs) : FlatV Sl' ks vs := by
  induction ks generalizing vs with
  | nil => cases vs with
    | nil => trivial
    | cons _ _ => exact h.elim
  | cons k ks ih => cases vs with
    | nil => cases k <;> exact h.elim
    | cons v vs => cases k with
      | int k => exact ⟨h.1, ih hn h.2⟩
      | bool => exact ⟨h.1, ih hn h.2⟩
      | slice t => cases hn

theorem SlT.rows {t e : TypeId} {n : Nat} {ks : List FK} {v : Value} (ht : P.underlying t = some (.slice e)) (hk : flatK P n e = some ks) (hn : noSlice ks = true) (h0 : 0 < ks.length) (hl : P.cellsOf e = ks.length)
    (h : SlT enc P w base spare held t v) : ∃ a len cap, v = .slice a len cap ∧ len ≤ cap ∧ cap ≤ maxLen ∧ RowsAt w a len ks := by
  obtain ⟨fuel, x, h⟩ := h
  rcases open_slice ht h with ⟨hv, _⟩ | ⟨a, len, cap, m, n', D, Pl, hv, _, h1, h2, hm, _, hx⟩
  · simp only [List.cons.injEq, and_true] at hv
    exact ⟨none, 0, 0, hv, Nat.le_refl _, by unfold maxLen; omega, fun i hi => absurd hi (Nat.not_lt_zero _)⟩
  · simp only [List.cons.injEq, and_true] at hv
    refine ⟨some a, len, cap, hv, h1, h2, fun i hi => ?_⟩
    obtain ⟨cs, hc, hy⟩ := hx i (by rw [hm]; split <;> omega)
    have hf := flat_trod n _ _ _ _ _ hk hy
    obtain ⟨hb, hlen, hcell⟩ := World.cells?_some hc
    rw [hl] at hlen
    have hspot : a.spot = none := by
      obtain ⟨cs0, hc0, _⟩ := hx 0 (by rw [hm]; split <;> omega)
      obtain ⟨_, hlen0, hcell0⟩ := World.cells?_some hc0
      have h := hcell0 0 (by omega)
      rw [Nat.zero_mul] at h
      have e : (a.add 0).add 0 = a := by simp [Addr.add]
      rw [e, List.getElem?_eq_getElem (by omega)] at h
      obtain ⟨b, o, sp⟩ := a
      cases sp with
      | none => rfl
      | some s => unfold World.cell? at h; simp only [Option.isSome_some, if_true] at h; split at h <;> cases h
    obtain ⟨b, o, sp⟩ := a
    simp only at hspot; subst hspot
    refine ⟨b, o, cs, rfl, hf.plain hn, fun j hj => ?_⟩
    have h := hcell j (by omega)
    rw [add_add, hl] at h
    rw [← h]
    congr 1
    simp only [Addr.add]
    split
    · next h0 => simp [h0]
    · rfl

end
end Go.Own
