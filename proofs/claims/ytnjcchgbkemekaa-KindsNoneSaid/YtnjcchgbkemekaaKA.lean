/- Kinds: the program's object, and what it says. -/
import Derived.Test.YtnjcchgbkemekaaAE
set_option linter.unusedVariables false
set_option linter.unusedSimpArgs false
namespace Go.Proofs.Ytnjcchgbkemekaa
open Go.RowKit Go.Own

/-- A row of numbers as a function. -/
def MetI (w : World) (q n : Nat) (M : Nat → Int) : Prop := ∃ C : Array Value, w.heap[q]? = some (.cells C 3 (0, 0)) ∧ n ≤ C.size ∧ ∀ i, i < n → C[i]? = some (.int .i64 (M i))
theorem MetI.cell {w : World} {q n i : Nat} {M : Nat → Int} (h : MetI w q n M) (hi : i < n) : w.cell? ⟨q, i, none⟩ = some (.int .i64 (M i)) := by
  obtain ⟨C, h1, h2, h3⟩ := h
  rw [cell_block h1]; exact h3 i hi
theorem MetI.frozen {w : World} {q n : Nat} {M : Nat → Int} (h : MetI w q n M) (i : Nat) : w.frozen? ⟨q, i, none⟩ = false := by
  obtain ⟨C, h1, h2, h3⟩ := h
  exact frozen_block h1
theorem MetI.lt {w : World} {q n : Nat} {M : Nat → Int} (h : MetI w q n M) : q < w.heap.size := by
  obtain ⟨C, h1, h2, h3⟩ := h
  exact block_lt h1
theorem MetI.typ {w : World} {q n : Nat} {M : Nat → Int} (h : MetI w q n M) : ∃ c, w.heap[q]? = some (.cells c 3 (0, 0)) := by
  obtain ⟨C, h1, h2, h3⟩ := h
  exact ⟨C, h1⟩
theorem MetI.keep {w w' : World} {q n : Nat} {M : Nat → Int} {S : Nat → Prop} (h : MetI w q n M) (k : Keep S w w') (hS : ¬ S q) : MetI w' q n M := by
  obtain ⟨C, h1, h2, h3⟩ := h
  exact ⟨C, (k.block q (block_lt h1) hS).trans h1, h2, h3⟩
theorem MetI.set {w : World} {q n i : Nat} {M : Nat → Int} (x : Int) (h : MetI w q n M) : MetI (w.setCell ⟨q, i, none⟩ (.int .i64 x)) q n (fun j => if j = i then x else M j) := by
  obtain ⟨C, h1, h2, h3⟩ := h
  refine ⟨C.setIfInBounds i (.int .i64 x), heap_setCell_eq h1, by simpa using h2, fun j hj => ?_⟩
  show _ = some (Value.int .i64 (if j = i then x else M j))
  by_cases e : j = i
  · subst e
    rw [if_pos rfl, Array.getElem?_setIfInBounds_self_of_lt (by omega)]
  · rw [if_neg e, Array.getElem?_setIfInBounds_ne (by omega)]
    exact h3 j hj
theorem MetI.congr {w : World} {q n : Nat} {M M' : Nat → Int} (h : MetI w q n M) (e : ∀ i, i < n → M i = M' i) : MetI w q n M' := by
  obtain ⟨C, h1, h2, h3⟩ := h
  exact ⟨C, h1, h2, fun i hi => by rw [h3 i hi, e i hi]⟩
/-- The blocks where the buddy's rows lie: N are other rows of numbers. -/
def GK (B : Nat) (N : Nat → Prop) (w : World) : Nat → Prop := fun z => (B ≤ z ∧ z < w.heap.size ∧ ¬ N z) ∧ ∃ c, w.heap[z]? = some (.cells c 3 (0, 0))
theorem BF.gk {w : World} {B p n : Nat} {F : Nat → Bool} {N G : Nat → Prop} (h : BF w B p n F G) (hN : ∀ z, G z → ¬ N z) : BF w B p n F (GK B N w) := by
  obtain ⟨S, ⟨V, h1, h2⟩, h3⟩ := h
  exact ⟨S, ⟨V, h1, fun j hj x hx => ⟨⟨((h1.hv j hj).lt x hx).1, ((h1.hv j hj).lt x hx).2, hN x (h2 j hj x hx)⟩, own_typ (h1.hv j hj) hx⟩⟩, h3⟩
theorem BF.hp {w : World} {B p n : Nat} {F : Nat → Bool} {G : Nat → Prop} (h : BF w B p n F G) : ∃ c, w.heap[p]? = some (.cells c 83 (0, 0)) := by
  obtain ⟨S, ⟨V, h1, h2⟩, h3⟩ := h
  exact ⟨_, h1.hp⟩
theorem BF.n1024 {w : World} {B p n : Nat} {F : Nat → Bool} {G : Nat → Prop} (h : BF w B p n F G) : n ≤ 1024 := by
  obtain ⟨S, ⟨V, h1, h2⟩, h3⟩ := h
  exact h1.hn
theorem BF.fin {w : World} {B p n : Nat} {F : Nat → Bool} {G : Nat → Prop} (h : BF w B p n F G) : ∀ i, F i = true → i < n := by
  obtain ⟨S, ⟨V, h1, h2⟩, h3, h4⟩ := h
  exact h4
/-- How many sections. -/
def sec (n : Nat) : Nat := (n + 7) / 8
theorem sec_lt {n f : Nat} (h : f < n) : f / 8 < sec n := by unfold sec; omega
/-- The object: k, its buddy b, its row of kinds kr. -/
structure KO (w : World) (B k b kr n : Nat) (F : Nat → Bool) (M : Nat → Int) (N : Nat → Prop) : Prop where
  hk : w.heap[k]? = some (.cells #[.pointer (some ⟨b, 0, none⟩), .int .i64 n, .slice (some ⟨kr, 0, none⟩) (sec n) (sec n)] 69 (0, 0))
  bf : BF w B b n F (GK B N w)
  mt : MetI w kr (sec n) M
  nk : N kr
  nl : ∀ z, N z → z < w.heap.size
  hB : B ≤ w.heap.size
theorem cells3 {w : World} {b e : Nat} {x0 x1 x2 : Value} {z : Nat × Nat} (hb : w.heap[b]? = some (.cells #[x0, x1, x2] e z)) :
    w.cell? ⟨b, 0, none⟩ = some x0 ∧ w.cell? ⟨b, 1, none⟩ = some x1 ∧ w.cell? ⟨b, 2, none⟩ = some x2 := ⟨by simp [cell_block hb], by simp [cell_block hb], by simp [cell_block hb]⟩
theorem KO.keep0 {w w' : World} {B k b kr n : Nat} {F : Nat → Bool} {M : Nat → Int} {N : Nat → Prop} (h : KO w B k b kr n F M N) (K : Keep (fun _ => False) w w') : KO w' B k b kr n F M N :=
  ⟨(K.block k (block_lt h.hk) id).trans h.hk, (BF.keep0 h.bf K).gk (fun z hz => hz.1.2.2), h.mt.keep K id, h.nk, fun z hz => Nat.lt_of_lt_of_le (h.nl z hz) K.size, Nat.le_trans h.hB K.size⟩
/-- What a call of the object may change of the buddy. -/
def KB3 (B b : Nat) (N : Nat → Prop) (w w' : World) : Prop := Keep (fun z => z = b ∨ GK B N w z) w w'
theorem KO.took {w w' : World} {B k b kr n : Nat} {F F' : Nat → Bool} {M : Nat → Int} {N : Nat → Prop} (h : KO w B k b kr n F M N) (t : TookC w w' B b n F' (GK B N w)) : KO w' B k b kr n F' M N ∧ KB3 B b N w w' := by
  obtain ⟨c, hc⟩ := h.bf.hp
  refine ⟨⟨?_, t.1.gk (fun z hz hn => ?_), h.mt.keep t.2 ?_, h.nk, fun z hz => Nat.lt_of_lt_of_le (h.nl z hz) t.2.size, Nat.le_trans h.hB t.2.size⟩, t.2⟩
  · rw [t.2.block k (block_lt h.hk) ?_]
    · exact h.hk
    · rintro (e | ⟨_, c2, h2⟩)
      · exact typ_ne h.hk hc (by decide) e
      · exact typ_ne h.hk h2 (by decide) rfl
  · rcases hz with hz | hz
    · exact hz.1.2.2 hn
    · have := h.nl z hn; omega
  · rintro (e | hz)
    · obtain ⟨c2, h2⟩ := h.mt.typ
      exact typ_ne h2 hc (by decide) e
    · exact hz.1.2.2 h.nk

section
variable {w : World} {B k b kr n : Nat} {F : Nat → Bool} {M : Nat → Int} {N : Nat → Prop}
set_option maxHeartbeats 1000000 in
theorem kind_in {f : Nat} (h : KO w B k b kr n F M N) (hf : f < n) :
    Calls Try.prog 17 #[.pointer (some ⟨k, 0, none⟩), .int .i64 (f : Int)] w fun e w' => e = .returned (.int .i64 (M (f / 8))) ∧ w' = w := by
  obtain ⟨z0, z1, z2⟩ := cells3 h.hk
  have hc := h.mt.cell (sec_lt hf)
  have hs := sec_lt hf
  have hn := h.bf.n1024
  have t0 : decide ((f : Int) < 0) = false := by simp
  have t1 : decide ((n : Int) ≤ (f : Int)) = false := by simp; omega
  have t2 : decide (n ≤ f) = false := by simp; omega
  obtain ⟨s, hs'⟩ : ∃ s, f / 8 = s := ⟨_, rfl⟩
  have hq : Int.tdiv (f : Int) 8 = (s : Int) := by rw [← hs']; exact (Int.ofNat_tdiv f 8).symm
  have hq2 : (f : Int) / 8 = (s : Int) := by omega
  rw [hs'] at hc hs ⊢
  have h1 : (s : Int) < (sec n : Int) := by omega
  have h0 : (0 : Int) ≤ s := by omega
  have hsw : IntKind.i64.wrap (s : Int) = (s : Int) := IntWalk.i64_in _ (by omega)
  have hsw' : wrap64 (s : Int) = (s : Int) := IntWalk.wrap64_in _ (by omega)
  clear hs' h
  go_enter Try.func17, Try.ntmps17
  go_wp2
  go_ret
  exact ⟨rfl, rfl⟩
theorem kind_out (f : Int) (h : KO w B k b kr n F M N) (hf : f < 0 ∨ (n : Int) ≤ f) :
    Calls Try.prog 17 #[.pointer (some ⟨k, 0, none⟩), .int .i64 f] w fun e w' => e = .returned (.int .i64 (-1)) ∧ w' = w := by
  obtain ⟨z0, z1, z2⟩ := cells3 h.hk
  clear h
  by_cases h0 : f < 0
  · have t0 : decide (f < 0) = true := by simp; omega
    go_enter Try.func17, Try.ntmps17
    go_wp2
    go_ret
    exact ⟨rfl, rfl⟩
  · have t0 : decide (f < 0) = false := by simp; omega
    have t1 : decide ((n : Int) ≤ f) = true := by simp; omega
    clear hf
    go_enter Try.func17, Try.ntmps17
    go_wp2
    go_ret
    exact ⟨rfl, rfl⟩
theorem khas_in {f : Nat} (h : KO w B k b kr n F M N) (hf : f < n) : Calls Try.prog 26 #[.pointer (some ⟨k, 0, none⟩), .int .i64 (f : Int)] w fun e w' => e = .returned (.bool (F f)) ∧ Keep (fun _ => False) w w' := by
  obtain ⟨z0, z1, z2⟩ := cells3 h.hk
  have HT : Hid (∀ W, Keep (fun _ => False) w W → Calls Try.prog 41 #[.pointer (some ⟨b, 0, none⟩), .int .i64 (f : Int)] W fun e w' => e = .returned (.bool (F f)) ∧ Keep (fun _ => False) W w') := fun W K => by
    obtain ⟨S, h1, h2, _⟩ := BF.keep0 h.bf K
    exact has_in h1 h2 hf
  clear h
  go_enter Try.func26, Try.ntmps26
  go_wp2_with (go_at_call 41; refine (HT.out _ (by (repeat (first | exact Keep.refl _ _ | exact Keep.refl _ _ | refine Keep.drew ?_ | refine Keep.drewN ?_ _ | refine Keep.alloc ?_ _ | refine Keep.setNew ?_ (by omega) _)); done)).mono ?_; rintro e w1 ⟨rfl, hk1⟩)
  go_ret
  exact ⟨rfl, (by (repeat (first | exact hk1 | exact Keep.refl _ _ | refine Keep.drew ?_ | refine Keep.drewN ?_ _ | refine Keep.alloc ?_ _ | refine Keep.setNew ?_ (by omega) _)); done)⟩
theorem kfree (h : KO w B k b kr n F M N) : Calls Try.prog 20 #[.pointer (some ⟨k, 0, none⟩)] w fun e w' => e = .returned (.int .i64 (cnt F n : Nat)) ∧ Keep (fun _ => False) w w' := by
  obtain ⟨z0, z1, z2⟩ := cells3 h.hk
  have HT : Hid (∀ W, Keep (fun _ => False) w W → Calls Try.prog 39 #[.pointer (some ⟨b, 0, none⟩)] W fun e w' => e = .returned (.int .i64 (cnt F n : Nat)) ∧ Keep (fun _ => False) W w') := fun W K => by
    obtain ⟨S, h1, _⟩ := BF.keep0 h.bf K
    exact free_any h1
  clear h
  go_enter Try.func20, Try.ntmps20
  go_wp2_with (go_at_call 39; refine (HT.out _ (by (repeat (first | exact Keep.refl _ _ | exact Keep.refl _ _ | refine Keep.drew ?_ | refine Keep.drewN ?_ _ | refine Keep.alloc ?_ _ | refine Keep.setNew ?_ (by omega) _)); done)).mono ?_; rintro e w1 ⟨rfl, hk1⟩)
  go_ret
  exact ⟨rfl, (by (repeat (first | exact hk1 | exact Keep.refl _ _ | refine Keep.drew ?_ | refine Keep.drewN ?_ _ | refine Keep.alloc ?_ _ | refine Keep.setNew ?_ (by omega) _)); done)⟩
theorem kblocks (h : KO w B k b kr n F M N) : Calls Try.prog 18 #[.pointer (some ⟨k, 0, none⟩)] w (BlC F w) := by
  obtain ⟨z0, z1, z2⟩ := cells3 h.hk
  have HT := Lib.hid (fun W (K : Keep (fun _ => False) w W) => blocks_any (BF.keep0 h.bf K))
  clear h
  go_enter Try.func18, Try.ntmps18
  go_wp2_with (go_at_call 38; refine (HT.out _ (by (repeat (first | exact Keep.refl _ _ | exact Keep.refl _ _ | refine Keep.drew ?_ | refine Keep.drewN ?_ _ | refine Keep.alloc ?_ _ | refine Keep.setNew ?_ (by omega) _)); done)).mono ?_; rintro e w1 ⟨v, D, rfl, hO, hI, hl, hk1⟩)
  go_ret
  exact ⟨v, D, rfl, hO, hI, hl, (by (repeat (first | exact hk1 | exact Keep.refl _ _ | refine Keep.drew ?_ | refine Keep.drewN ?_ _ | refine Keep.alloc ?_ _ | refine Keep.setNew ?_ (by omega) _)); done)⟩
end

end Go.Proofs.Ytnjcchgbkemekaa
