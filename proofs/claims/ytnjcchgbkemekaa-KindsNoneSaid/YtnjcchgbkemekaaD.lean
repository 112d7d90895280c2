/- Buddy: the lists as sets; the object; place. -/
import Derived.Test.YtnjcchgbkemekaaA
import Derived.Test.YtnjcchgbkemekaaC
set_option linter.unusedVariables false
set_option linter.unusedSimpArgs false
namespace Go.Proofs.Ytnjcchgbkemekaa
open Go.RowKit Go.Own

/-- The frames of the order k, rising. -/
def ls (S : Nat → Nat → Bool) (n k : Nat) : List Nat := (List.range n).filter (S k)
def li (S : Nat → Nat → Bool) (n k : Nat) : List Int := (ls S n k).map fun (a : Nat) => (a : Int)
def tl (S : Nat → Nat → Bool) (n k c : Nat) : List Nat := (List.range' (c + 1) (n - c - 1)).filter (S k)
theorem ls_split (S : Nat → Nat → Bool) (n k c : Nat) (hc : c < n) : ls S n k = ls S c k ++ ((if S k c then [c] else []) ++ tl S n k c) := by
  unfold ls tl
  have e : List.range n = List.range c ++ (c :: List.range' (c + 1) (n - c - 1)) := by
    rw [List.range_eq_range', List.range_eq_range', ← List.range'_succ, show n - c - 1 + 1 = n - c by omega]
    have := List.range'_append_1 (s := 0) (m := c) (n := n - c)
    rw [Nat.zero_add, show c + (n - c) = n by omega] at this
    exact this.symm
  rw [e, List.filter_append, List.filter_cons]
  split <;> rename_i h <;> simp [h]
theorem ls_mem (S : Nat → Nat → Bool) (n k a : Nat) : a ∈ ls S n k ↔ a < n ∧ S k a = true := by simp [ls]
theorem tl_gt {S : Nat → Nat → Bool} {n k c a : Nat} (h : a ∈ tl S n k c) : c < a := by
  unfold tl at h
  rw [List.mem_filter, List.mem_range'_1] at h
  omega
theorem li_sorted (S : Nat → Nat → Bool) (n k : Nat) : (li S n k).Pairwise (· < ·) := by
  unfold li ls
  rw [List.pairwise_map]
  exact (List.pairwise_lt_range.filter _).imp fun h => by omega
theorem li_le (S : Nat → Nat → Bool) (n k : Nat) : (li S n k).Pairwise (· ≤ ·) := (li_sorted S n k).imp fun h => by omega
theorem li_len (S : Nat → Nat → Bool) (n k : Nat) : (li S n k).length ≤ n := by
  unfold li ls
  rw [List.length_map]
  exact Nat.le_trans (List.length_filter_le _ _) (by simp)
theorem li_contains (S : Nat → Nat → Bool) (n k c : Nat) : (li S n k).contains (c : Int) = (decide (c < n) && S k c) := by
  rw [Bool.eq_iff_iff, List.contains_iff_mem]
  unfold li
  rw [List.mem_map, Bool.and_eq_true, decide_eq_true_eq, ← ls_mem S n k c]
  constructor
  · rintro ⟨a, ha, e⟩
    have : a = c := by omega
    subst this; exact ha
  · intro h; exact ⟨c, h, rfl⟩
theorem li_count (S : Nat → Nat → Bool) (n k c : Nat) (hc : c < n) : (li S n k).countP (· < (c : Int)) = (ls S c k).length := by
  unfold li
  rw [List.countP_map, ls_split S n k c hc, List.countP_append, List.countP_append]
  have h1 : List.countP ((fun x => decide (x < (c : Int))) ∘ fun (a : Nat) => (a : Int)) (ls S c k) = (ls S c k).length := by
    rw [List.countP_eq_length]
    intro a ha
    have := (ls_mem S c k a).mp ha
    simp; omega
  have h2 : List.countP ((fun x => decide (x < (c : Int))) ∘ fun (a : Nat) => (a : Int)) (if S k c then [c] else []) = 0 := by
    rw [List.countP_eq_zero]
    intro a ha
    split at ha
    · simp at ha; subst ha; simp
    · cases ha
  have h3 : List.countP ((fun x => decide (x < (c : Int))) ∘ fun (a : Nat) => (a : Int)) (tl S n k c) = 0 := by
    rw [List.countP_eq_zero]
    intro a ha
    have := tl_gt ha
    simp; omega
  rw [h1, h2, h3]; rfl
theorem li_put (S : Nat → Nat → Bool) (n k c : Nat) (hc : c < n) (hs : S k c = false) : li (putS S k c) n k = insAt (li S n k) (ls S c k).length (c : Int) := by
  have e1 : ls (putS S k c) c k = ls S c k := by
    unfold ls
    apply List.filter_congr
    intro a ha
    rw [List.mem_range] at ha
    simp [putS]; omega
  have e2 : tl (putS S k c) n k c = tl S n k c := by
    unfold tl
    apply List.filter_congr
    intro a ha
    rw [List.mem_range'_1] at ha
    simp [putS]; omega
  have e3 : putS S k c k c = true := by simp [putS]
  unfold li insAt
  rw [ls_split (putS S k c) n k c hc, ls_split S n k c hc, e1, e2, e3, hs]
  simp
theorem li_drop (S : Nat → Nat → Bool) (n k c : Nat) (hc : c < n) (hs : S k c = true) : li (dropS S k c) n k = (li S n k).take (ls S c k).length ++ (li S n k).drop ((ls S c k).length + 1) := by
  have e1 : ls (dropS S k c) c k = ls S c k := by
    unfold ls
    apply List.filter_congr
    intro a ha
    rw [List.mem_range] at ha
    have : a ≠ c := by omega
    simp [dropS, this]
  have e2 : tl (dropS S k c) n k c = tl S n k c := by
    unfold tl
    apply List.filter_congr
    intro a ha
    rw [List.mem_range'_1] at ha
    have : a ≠ c := by omega
    simp [dropS, this]
  have e3 : dropS S k c k c = false := by simp [dropS]
  unfold li
  rw [ls_split (dropS S k c) n k c hc, ls_split S n k c hc, e1, e2, e3, hs]
  simp
  rw [List.drop_append, List.drop_of_length_le (by simp)]
  simp
theorem li_other {S S' : Nat → Nat → Bool} {n k : Nat} (h : ∀ a, S k a = S' k a) : li S n k = li S' n k := by
  unfold li ls
  rw [show S k = S' k from funext h]
theorem put_other (S : Nat → Nat → Bool) {k j c : Nat} (h : j ≠ k) (a : Nat) : putS S k c j a = S j a := by simp [putS, h]
theorem drop_other (S : Nat → Nat → Bool) {k j c : Nat} (h : j ≠ k) (a : Nat) : dropS S k c j a = S j a := by simp [dropS, h]

/-- The object at p: n frames, the lists S, the count. -/
structure RepB (w : World) (B p n : Nat) (S : Nat → Nat → Bool) (fr : Int) (V : Nat → Value) : Prop where
  hp : w.heap[p]? = some (.cells #[.int .i64 (n : Int), V 0, V 1, V 2, V 3, V 4, V 5, V 6, V 7, V 8, .int .i64 fr] 83 (0, 0))
  hv : ∀ k, k ≤ 8 → OwnL inE w B 3 (V k) (li S n k)
  ap : ∀ j k, j ≤ 8 → k ≤ 8 → j ≠ k → ∀ x, (V j).ownBlock = some x → (V k).ownBlock ≠ some x
  hn : n ≤ 1024
  hf : -100000 ≤ fr ∧ fr ≤ 100000
theorem le8 {k : Nat} (h : k ≤ 8) : k = 0 ∨ k = 1 ∨ k = 2 ∨ k = 3 ∨ k = 4 ∨ k = 5 ∨ k = 6 ∨ k = 7 ∨ k = 8 := by omega
section
variable {w : World} {B p n : Nat} {S : Nat → Nat → Bool} {fr : Int} {V : Nat → Value} (h : RepB w B p n S fr V)
include h
theorem RepB.cV {k : Nat} (hk : k ≤ 8) : w.cell? ⟨p, 1 + k, none⟩ = some (V k) := by
  rw [cell_block h.hp]
  rcases le8 hk with rfl | rfl | rfl | rfl | rfl | rfl | rfl | rfl | rfl <;> rfl
theorem RepB.c0 : w.cell? ⟨p, 0, none⟩ = some (.int .i64 (n : Int)) := by rw [cell_block h.hp]; rfl
theorem RepB.c10 : w.cell? ⟨p, 10, none⟩ = some (.int .i64 fr) := by rw [cell_block h.hp]; rfl
theorem RepB.fz (i : Nat) : w.frozen? ⟨p, i, none⟩ = false := frozen_block h.hp
theorem RepB.keep {T : Nat → Prop} {w' : World} (k : Keep T w w') (hp : ¬ T p) (hv : ∀ j, j ≤ 8 → ∀ x, (V j).ownBlock = some x → ¬ T x) : RepB w' B p n S fr V :=
  ⟨(k.block p (block_lt h.hp) hp).trans h.hp, fun j hj => (h.hv j hj).keep k (hv j hj), h.ap, h.hn, h.hf⟩
theorem RepB.keep0 {w' : World} (k : Keep (fun _ => False) w w') : RepB w' B p n S fr V := h.keep k id (fun _ _ _ _ => id)
theorem RepB.np {j : Nat} (hj : j ≤ 8) : ∀ x, (V j).ownBlock = some x → x ≠ p := fun x hx => by
  obtain ⟨c, hc⟩ := own_typ (h.hv j hj) hx
  exact typ_ne hc h.hp (by decide)
end
/-- The lists' rows lie in G. -/
def BS (w : World) (B p n : Nat) (S : Nat → Nat → Bool) (fr : Int) (G : Nat → Prop) : Prop := ∃ V, RepB w B p n S fr V ∧ ∀ j, j ≤ 8 → ∀ x, (V j).ownBlock = some x → G x
theorem BS.keep0 {w w' : World} {B p n : Nat} {S : Nat → Nat → Bool} {fr : Int} {G : Nat → Prop} (h : BS w B p n S fr G) (k : Keep (fun _ => False) w w') : BS w' B p n S fr G := by
  obtain ⟨V, h1, h2⟩ := h
  exact ⟨V, h1.keep0 k, h2⟩
theorem BS.mono {w : World} {B p n : Nat} {S : Nat → Nat → Bool} {fr : Int} {G G' : Nat → Prop} (h : BS w B p n S fr G) (hG : ∀ x, G x → G' x) : BS w B p n S fr G' := by
  obtain ⟨V, h1, h2⟩ := h
  exact ⟨V, h1, fun j hj x hx => hG x (h2 j hj x hx)⟩
theorem BS.keep {w w' : World} {B p n : Nat} {S : Nat → Nat → Bool} {fr : Int} {G T : Nat → Prop} (h : BS w B p n S fr G) (k : Keep T w w') (hp : ¬ T p) (hG : ∀ x, G x → ¬ T x) : BS w' B p n S fr G := by
  obtain ⟨V, h1, h2⟩ := h
  exact ⟨V, h1.keep k hp (fun j hj x hx => hG x (h2 j hj x hx)), h2⟩

/-- One list gets another row. -/
theorem repB_set {w w2 : World} {B p n k : Nat} {S S' : Nat → Nat → Bool} {fr : Int} {V : Nat → Value} {v' : Value} (h : RepB w B p n S fr V) (hk : k ≤ 8) (K : Keep (fun z => (V k).ownBlock = some z) w w2)
    (ho : OwnL inE w2 B 3 v' (li S' n k)) (hS : ∀ j, j ≠ k → ∀ a, S' j a = S j a) (hf : ∀ x, v'.ownBlock = some x → (V k).ownBlock = some x ∨ w.heap.size ≤ x) :
    RepB (w2.setCell ⟨p, 1 + k, none⟩ v') B p n S' fr (fun j => if j = k then v' else V j) ∧ Keep (fun z => z = p ∨ (V k).ownBlock = some z) w (w2.setCell ⟨p, 1 + k, none⟩ v') := by
  have hp2 := (K.block p (block_lt h.hp) (fun e => h.np hk p e rfl)).trans h.hp
  have KP := (Keep.refl (fun z => z = p) w2).setCell (p := ⟨p, 1 + k, none⟩) (fun _ => rfl) v'
  have hnp : ∀ {z : Value} {X : List Int}, OwnL inE w2 B 3 z X → ∀ x, z.ownBlock = some x → x ≠ p := fun hz x hx => by
    obtain ⟨c, hc⟩ := own_typ hz hx
    exact typ_ne hc hp2 (by decide)
  refine ⟨⟨?_, fun j hj => ?_, fun i j hi hj hij x hx e => ?_, h.hn, h.hf⟩, (K.mono (fun _ _ h => .inr h)).on KP fun z _ e => .inl e⟩
  · rw [heap_setCell_eq hp2]
    rcases le8 hk with rfl | rfl | rfl | rfl | rfl | rfl | rfl | rfl | rfl <;> rfl
  · by_cases e : j = k
    · subst e
      rw [if_pos rfl]
      exact ho.keep KP (hnp ho)
    · rw [if_neg e, li_other (hS j e)]
      have h1 := (h.hv j hj).keep K (fun x hx e2 => h.ap j k hj hk e x hx e2)
      exact h1.keep KP (hnp h1)
  · have new : ∀ j, j ≤ 8 → j ≠ k → ∀ x, v'.ownBlock = some x → (V j).ownBlock ≠ some x := fun j hj hjk x hx e => by
      rcases hf x hx with h' | h'
      · exact h.ap j k hj hk hjk x e h'
      · have := ((h.hv j hj).lt x e).2; omega
    by_cases ei : i = k
    · subst ei
      rw [if_pos rfl] at hx
      rw [if_neg (fun e => hij e.symm)] at e
      exact new j hj (fun e => hij e.symm) x hx e
    · rw [if_neg ei] at hx
      by_cases ej : j = k
      · subst ej
        rw [if_pos rfl] at e
        exact new i hi ei x e hx
      · rw [if_neg ej] at e
        exact h.ap i j hi hj hij x hx e

set_option maxHeartbeats 1000000 in
theorem place_any {w : World} {B p n k : Nat} {S : Nat → Nat → Bool} {fr : Int} {V : Nat → Value} (f : Int) (h : RepB w B p n S fr V) (hk : k ≤ 8) :
    Calls Try.prog 54 #[.pointer (some ⟨p, 0, none⟩), .int .i64 f, .int .i64 (k : Int)] w fun e w' => e = .returned (.tuple #[.int .i64 ((li S n k).countP (· < f) : Nat), .bool ((li S n k).contains f)]) ∧ Keep (fun _ => False) w w' := by
  have c := h.cV hk
  have hlen := li_len S n k
  have hn := h.hn
  have HV := Lib.hid (h.hv k hk)
  have hkz : (0 : Int) ≤ (k : Int) := Int.natCast_nonneg k
  have hk9 : (k : Int) < 9 := by omega
  obtain ⟨cnt, hcnt⟩ : ∃ c, (li S n k).countP (· < f) = c := ⟨_, rfl⟩
  obtain ⟨fb, hfb⟩ : ∃ c, (li S n k).contains f = c := ⟨_, rfl⟩
  have HC := Lib.hid (bs_any B (V k) (li S n k) f w HV.out (li_le S n k) (by omega))
  rw [hcnt, hfb] at HC ⊢
  clear hcnt hfb hlen
  go_enter Try.func54, Try.ntmps54
  go_wp2_with (go_at_call 60; refine HC.out.mono ?_; rintro e w1 ⟨rfl, hk1⟩)
  go_ret2
  exact ⟨rfl, hk1⟩

end Go.Proofs.Ytnjcchgbkemekaa
