/- MovingOrder: the walk. -/
import Derived.Test.YtnlalihapmlceaaJ
import Derived.Test.YtnlalihapmlceaaArgs
set_option linter.unusedVariables false
set_option linter.unusedSimpArgs false
namespace Go.Proofs.Ytnlalihapmlceaa
open Go.RowKit Go.Own

/-- A call that is asked. -/
structure A3 where
  k : Int
  f : Int
  t : Int

def Acts3 (w : World) (la : Option Addr) (A : List A3) : Prop :=
  ∀ i (h : i < A.length), ∃ b o, la = some ⟨b, o, none⟩ ∧ w.cell? ⟨b, o + i * 3, none⟩ = some (.int .i64 A[i].k) ∧ w.cell? ⟨b, o + i * 3 + 1, none⟩ = some (.int .i64 A[i].f) ∧
    w.cell? ⟨b, o + i * 3 + 1 + 1, none⟩ = some (.int .i64 A[i].t)

theorem acts3_of_rows {w : World} {la : Option Addr} {l : Nat} (h : RowsAt w la l [.int .i64, .int .i64, .int .i64]) : ∃ A : List A3, A.length = l ∧ Acts3 w la A := by
  have h2 : ∀ i, i < l → ∃ x : A3, ∃ b o, la = some ⟨b, o, none⟩ ∧ w.cell? ⟨b, o + i * 3, none⟩ = some (.int .i64 x.k) ∧ w.cell? ⟨b, o + i * 3 + 1, none⟩ = some (.int .i64 x.f) ∧
      w.cell? ⟨b, o + i * 3 + 1 + 1, none⟩ = some (.int .i64 x.t) := by
    intro i hi
    obtain ⟨b, o, cs, ha, hf, hc⟩ := h i hi
    have hl := hf.length
    obtain ⟨c0, c1, c2, rfl⟩ : ∃ c0 c1 c2, cs = [c0, c1, c2] := by
      rcases cs with _ | ⟨c0, _ | ⟨c1, _ | ⟨c2, _ | ⟨c3, cs⟩⟩⟩⟩ <;> simp at hl
      exact ⟨c0, c1, c2, rfl⟩
    obtain ⟨⟨f, rfl, _⟩, ⟨n, rfl, _⟩, ⟨a, rfl, _⟩, _⟩ := hf
    have h0 := hc 0 (by decide)
    have h1 := hc 1 (by decide)
    have h2 := hc 2 (by decide)
    simp only [List.length_cons, List.length_nil, Nat.reduceAdd, Nat.add_zero, ← Nat.add_assoc, List.getElem?_cons_zero, List.getElem?_cons_succ] at h0 h1 h2
    exact ⟨⟨f, n, a⟩, b, o, ha, h0, h1, h2⟩
  haveI : Inhabited A3 := ⟨⟨0, 0, 0⟩⟩
  obtain ⟨F, hF⟩ := Deep.choose_lt h2
  exact ⟨(List.range l).map F, by simp, fun i hi => by
    have := hF i (by simpa using hi)
    simpa using this⟩

theorem kept3 {S : Nat → Prop} {w w' : World} {b e : Nat} {x0 x1 x2 : Value} {z : Nat × Nat} (k : Keep S w w') (hb : w.heap[b]? = some (.cells #[x0, x1, x2] e z)) (hs : ¬ S b) :
    w'.cell? ⟨b, 0, none⟩ = some x0 ∧ w'.cell? ⟨b, 1, none⟩ = some x1 ∧ w'.cell? ⟨b, 2, none⟩ = some x2 := by
  have h := (k.block b (block_lt hb) hs).trans hb
  simp [cell_block h]

structure IV (w0 w : World) (p st : Nat) (v : Value) (L : List Mv) (T : List Int) (k : Int) : Prop where
  rep : RepM w w0.heap.size p v 9 L
  vs : v.ownBlock ≠ some st
  pB : w0.heap.size ≤ p
  sB : w0.heap.size ≤ st
  ne : st ≠ p
  hs : w.heap[st]? = some (rowI T)
  od : Ord L T k
  kp : Keep (fun _ => False) w0 w

/-- A call that changes the object alone. -/
theorem IV.next {w0 w w' : World} {p st : Nat} {v v' : Value} {L M : List Mv} {T : List Int} {k m : Int} (h : IV w0 w p st v L T k) (hR : RepM w' w0.heap.size p v' 9 M) (hk : Keep (fun x => x = p ∨ v.ownBlock = some x) w w')
    (hv : ∀ x, v'.ownBlock = some x → v.ownBlock = some x ∨ w.heap.size ≤ x) (ho : Ord M T m) : IV w0 w' p st v' M T m := by
  have hsl := block_lt h.hs
  have hvs := h.vs
  have hlt := h.rep.hv.lt
  have hpB := h.pB
  have hne := h.ne
  refine ⟨hR, fun e => ?_, h.pB, h.sB, h.ne, (hk.block st hsl (fun e => ?_)).trans h.hs, ho, ((h.kp.mono (T := fun x => w0.heap.size ≤ x) (fun _ _ h => h.elim)).trans ((hk.mono (T := fun x => w0.heap.size ≤ x) (fun x _ e => ?_)))) |>.mono (fun x h1 h2 => by omega)⟩
  · rcases hv _ e with e | e
    · exact hvs e
    · omega
  · rcases e with e | e
    · exact hne e
    · exact hvs e
  · rcases e with rfl | e
    · exact hpB
    · exact (hlt x e).1

theorem IV.put {w0 w : World} {p st : Nat} {v : Value} {L : List Mv} {k : Int} {i : Nat} {u : Int} {T0 : List Int} (hR : RepM w w0.heap.size p v 9 L) (vs : v.ownBlock ≠ some st) (pB : w0.heap.size ≤ p) (sB : w0.heap.size ≤ st) (ne : st ≠ p)
    (hs : w.heap[st]? = some (rowI T0)) (kp : Keep (fun _ => False) w0 w) (ho : Ord L (T0.set i u) k) : IV w0 (w.setCell ⟨st, i, none⟩ (.int .i64 u)) p st v L (T0.set i u) k :=
  ⟨hR.keep ((Keep.refl (fun x => x = st) w).setCell (fun _ => rfl) _) (Ne.symm ne) (fun x hx e => vs (e ▸ hx)), vs, pB, sB, ne, heap_setCell_rowI hs, ho, (kp.mono (T := fun x => w0.heap.size ≤ x) (fun _ _ h => h.elim)).setCell (fun _ => sB) _ |>.mono (fun x h1 h2 => by omega)⟩

end Go.Proofs.Ytnlalihapmlceaa
