/- Kinds: the plain answer of Take. -/
import Derived.Test.YtjffdimlbppgcaaGreatAE
set_option linter.unusedVariables false
set_option linter.unusedSimpArgs false
namespace Go.Proofs.YtjffdimlbppgcaaGreat
open Go.RowKit Go.Own

/- Part KA: Kinds: the program's object, and what it says. -/
/-- A row of numbers as a function. -/
def MetI (w : World) (q n : Nat) (M : Nat → Int) : Prop := ∃ C : Array Value, w.heap[q]? = some (.cells C 3 (0, 0)) ∧ n ≤ C.size ∧ ∀ i, i < n → C[i]? = some (.int .i64 (M i))
theorem MetI.cell {w : World} {q n i : Nat} {M : Nat → Int} (h : MetI w q n M) (hi : i < n) : w.cell? ⟨q, i, none⟩ = some (.int .i64 (M i)) := by
  obtain ⟨C, h1, h2, h3⟩ := h
  rw [cell_block h1]; exact h3 i hi
theorem MetI.frozen {w : World} {q n : Nat} {M : Nat → Int} (h : MetI w q n M) (i : Nat) : w.frozen? ⟨q, i, none⟩ = false := by
  obtain ⟨C, h1, h2, h3⟩ := h
  exact frozen_block h1
theorem MetI.lt {w : World} {q n : Nat} {M : Nat → Int} (h : MetI w q n M) : q < w.heap.size := by
  obtain ⟨C, h1, h2, h3⟩ := h
  exact block_lt h1
theorem MetI.typ {w : World} {q n : Nat} {M : Nat → Int} (h : MetI w q n M) : ∃ c, w.heap[q]? = some (.cells c 3 (0, 0)) := by
  obtain ⟨C, h1, h2, h3⟩ := h
  exact ⟨C, h1⟩
theorem MetI.keep {w w' : World} {q n : Nat} {M : Nat → Int} {S : Nat → Prop} (h : MetI w q n M) (k : Keep S w w') (hS : ¬ S q) : MetI w' q n M := by
  obtain ⟨C, h1, h2, h3⟩ := h
  exact ⟨C, (k.block q (block_lt h1) hS).trans h1, h2, h3⟩
theorem MetI.set {w : World} {q n i : Nat} {M : Nat → Int} (x : Int) (h : MetI w q n M) : MetI (w.setCell ⟨q, i, none⟩ (.int .i64 x)) q n (fun j => if j = i then x else M j) := by
  obtain ⟨C, h1, h2, h3⟩ := h
  refine ⟨C.setIfInBounds i (.int .i64 x), heap_setCell_eq h1, by simpa using h2, fun j hj => ?_⟩
  show _ = some (Value.int .i64 (if j = i then x else M j))
  by_cases e : j = i
  · subst e
    rw [if_pos rfl, Array.getElem?_setIfInBounds_self_of_lt (by omega)]
  · rw [if_neg e, Array.getElem?_setIfInBounds_ne (by omega)]
    exact h3 j hj
theorem MetI.congr {w : World} {q n : Nat} {M M' : Nat → Int} (h : MetI w q n M) (e : ∀ i, i < n → M i = M' i) : MetI w q n M' := by
  obtain ⟨C, h1, h2, h3⟩ := h
  exact ⟨C, h1, h2, fun i hi => by rw [h3 i hi, e i hi]⟩
/-- The blocks where the buddy's rows lie: N are other rows of numbers. -/
def GK (B : Nat) (N : Nat → Prop) (w : World) : Nat → Prop := fun z => (B ≤ z ∧ z < w.heap.size ∧ ¬ N z) ∧ ∃ c, w.heap[z]? = some (.cells c 3 (0, 0))
theorem BF.gk {w : World} {B p n : Nat} {F : Nat → Bool} {N G : Nat → Prop} (h : BF w B p n F G) (hN : ∀ z, G z → ¬ N z) : BF w B p n F (GK B N w) := by
  obtain ⟨S, ⟨V, h1, h2⟩, h3⟩ := h
  exact ⟨S, ⟨V, h1, fun j hj x hx => ⟨⟨((h1.hv j hj).lt x hx).1, ((h1.hv j hj).lt x hx).2, hN x (h2 j hj x hx)⟩, own_typ (h1.hv j hj) hx⟩⟩, h3⟩
theorem BF.hp {w : World} {B p n : Nat} {F : Nat → Bool} {G : Nat → Prop} (h : BF w B p n F G) : ∃ c, w.heap[p]? = some (.cells c 118 (0, 0)) := by
  obtain ⟨S, ⟨V, h1, h2⟩, h3⟩ := h
  exact ⟨_, h1.hp⟩
theorem BF.n1024 {w : World} {B p n : Nat} {F : Nat → Bool} {G : Nat → Prop} (h : BF w B p n F G) : n ≤ 1024 := by
  obtain ⟨S, ⟨V, h1, h2⟩, h3⟩ := h
  exact h1.hn
theorem BF.fin {w : World} {B p n : Nat} {F : Nat → Bool} {G : Nat → Prop} (h : BF w B p n F G) : ∀ i, F i = true → i < n := by
  obtain ⟨S, ⟨V, h1, h2⟩, h3, h4⟩ := h
  exact h4
/-- How many sections. -/
def sec (n : Nat) : Nat := (n + 7) / 8
theorem sec_lt {n f : Nat} (h : f < n) : f / 8 < sec n := by unfold sec; omega
/-- The object: k, its buddy b, its row of kinds kr. -/
structure KO (w : World) (B k b kr n : Nat) (F : Nat → Bool) (M : Nat → Int) (N : Nat → Prop) : Prop where
  hk : w.heap[k]? = some (.cells #[.pointer (some ⟨b, 0, none⟩), .int .i64 n, .slice (some ⟨kr, 0, none⟩) (sec n) (sec n)] 101 (0, 0))
  bf : BF w B b n F (GK B N w)
  mt : MetI w kr (sec n) M
  nk : N kr
  nl : ∀ z, N z → z < w.heap.size
  hB : B ≤ w.heap.size
theorem cells3 {w : World} {b e : Nat} {x0 x1 x2 : Value} {z : Nat × Nat} (hb : w.heap[b]? = some (.cells #[x0, x1, x2] e z)) :
    w.cell? ⟨b, 0, none⟩ = some x0 ∧ w.cell? ⟨b, 1, none⟩ = some x1 ∧ w.cell? ⟨b, 2, none⟩ = some x2 := ⟨by simp [cell_block hb], by simp [cell_block hb], by simp [cell_block hb]⟩
theorem KO.keep0 {w w' : World} {B k b kr n : Nat} {F : Nat → Bool} {M : Nat → Int} {N : Nat → Prop} (h : KO w B k b kr n F M N) (K : Keep (fun _ => False) w w') : KO w' B k b kr n F M N :=
  ⟨(K.block k (block_lt h.hk) id).trans h.hk, (BF.keep0 h.bf K).gk (fun z hz => hz.1.2.2), h.mt.keep K id, h.nk, fun z hz => Nat.lt_of_lt_of_le (h.nl z hz) K.size, Nat.le_trans h.hB K.size⟩
/-- What a call of the object may change of the buddy. -/
def KB3 (B b : Nat) (N : Nat → Prop) (w w' : World) : Prop := Keep (fun z => z = b ∨ GK B N w z) w w'
theorem KO.took {w w' : World} {B k b kr n : Nat} {F F' : Nat → Bool} {M : Nat → Int} {N : Nat → Prop} (h : KO w B k b kr n F M N) (t : TookC w w' B b n F' (GK B N w)) : KO w' B k b kr n F' M N ∧ KB3 B b N w w' := by
  obtain ⟨c, hc⟩ := h.bf.hp
  refine ⟨⟨?_, t.1.gk (fun z hz hn => ?_), h.mt.keep t.2 ?_, h.nk, fun z hz => Nat.lt_of_lt_of_le (h.nl z hz) t.2.size, Nat.le_trans h.hB t.2.size⟩, t.2⟩
  · rw [t.2.block k (block_lt h.hk) ?_]
    · exact h.hk
    · rintro (e | ⟨_, c2, h2⟩)
      · exact typ_ne h.hk hc (by decide) e
      · exact typ_ne h.hk h2 (by decide) rfl
  · rcases hz with hz | hz
    · exact hz.1.2.2 hn
    · have := h.nl z hn; omega
  · rintro (e | hz)
    · obtain ⟨c2, h2⟩ := h.mt.typ
      exact typ_ne h2 hc (by decide) e
    · exact hz.1.2.2 h.nk

section
variable {w : World} {B k b kr n : Nat} {F : Nat → Bool} {M : Nat → Int} {N : Nat → Prop}
set_option maxHeartbeats 1000000 in
theorem kind_in {f : Nat} (h : KO w B k b kr n F M N) (hf : f < n) :
    Calls Tryz.prog 62 #[.pointer (some ⟨k, 0, none⟩), .int .i64 (f : Int)] w fun e w' => e = .returned (.int .i64 (M (f / 8))) ∧ w' = w := by
  obtain ⟨z0, z1, z2⟩ := cells3 h.hk
  have hc := h.mt.cell (sec_lt hf)
  have hs := sec_lt hf
  have hn := h.bf.n1024
  have t0 : decide ((f : Int) < 0) = false := by simp
  have t1 : decide ((n : Int) ≤ (f : Int)) = false := by simp; omega
  have t2 : decide (n ≤ f) = false := by simp; omega
  obtain ⟨s, hs'⟩ : ∃ s, f / 8 = s := ⟨_, rfl⟩
  have hq : Int.tdiv (f : Int) 8 = (s : Int) := by rw [← hs']; exact (Int.ofNat_tdiv f 8).symm
  have hq2 : (f : Int) / 8 = (s : Int) := by omega
  rw [hs'] at hc hs ⊢
  have h1 : (s : Int) < (sec n : Int) := by omega
  have h0 : (0 : Int) ≤ s := by omega
  have hsw : IntKind.i64.wrap (s : Int) = (s : Int) := IntWalk.i64_in _ (by omega)
  have hsw' : wrap64 (s : Int) = (s : Int) := IntWalk.wrap64_in _ (by omega)
  clear hs' h
  go_enter Tryz.func62, Tryz.ntmps62
  go_wp2
  go_ret
  exact ⟨rfl, rfl⟩
theorem kind_out (f : Int) (h : KO w B k b kr n F M N) (hf : f < 0 ∨ (n : Int) ≤ f) :
    Calls Tryz.prog 62 #[.pointer (some ⟨k, 0, none⟩), .int .i64 f] w fun e w' => e = .returned (.int .i64 (-1)) ∧ w' = w := by
  obtain ⟨z0, z1, z2⟩ := cells3 h.hk
  clear h
  by_cases h0 : f < 0
  · have t0 : decide (f < 0) = true := by simp; omega
    go_enter Tryz.func62, Tryz.ntmps62
    go_wp2
    go_ret
    exact ⟨rfl, rfl⟩
  · have t0 : decide (f < 0) = false := by simp; omega
    have t1 : decide ((n : Int) ≤ f) = true := by simp; omega
    clear hf
    go_enter Tryz.func62, Tryz.ntmps62
    go_wp2
    go_ret
    exact ⟨rfl, rfl⟩
theorem khas_in {f : Nat} (h : KO w B k b kr n F M N) (hf : f < n) : Calls Tryz.prog 56 #[.pointer (some ⟨k, 0, none⟩), .int .i64 (f : Int)] w fun e w' => e = .returned (.bool (F f)) ∧ Keep (fun _ => False) w w' := by
  obtain ⟨z0, z1, z2⟩ := cells3 h.hk
  have HT : Hid (∀ W, Keep (fun _ => False) w W → Calls Tryz.prog 64 #[.pointer (some ⟨b, 0, none⟩), .int .i64 (f : Int)] W fun e w' => e = .returned (.bool (F f)) ∧ Keep (fun _ => False) W w') := fun W K => by
    obtain ⟨S, h1, h2, _⟩ := BF.keep0 h.bf K
    exact has_in h1 h2 hf
  clear h
  go_enter Tryz.func56, Tryz.ntmps56
  go_wp2_with (go_at_call 64; refine (HT.out _ (by (repeat (first | exact Keep.refl _ _ | exact Keep.refl _ _ | refine Keep.drew ?_ | refine Keep.drewN ?_ _ | refine Keep.alloc ?_ _ | refine Keep.setNew ?_ (by omega) _)); done)).mono ?_; rintro e w1 ⟨rfl, hk1⟩)
  go_ret
  exact ⟨rfl, (by (repeat (first | exact hk1 | exact Keep.refl _ _ | refine Keep.drew ?_ | refine Keep.drewN ?_ _ | refine Keep.alloc ?_ _ | refine Keep.setNew ?_ (by omega) _)); done)⟩
theorem kfree (h : KO w B k b kr n F M N) : Calls Tryz.prog 34 #[.pointer (some ⟨k, 0, none⟩)] w fun e w' => e = .returned (.int .i64 (cnt F n : Nat)) ∧ Keep (fun _ => False) w w' := by
  obtain ⟨z0, z1, z2⟩ := cells3 h.hk
  have HT : Hid (∀ W, Keep (fun _ => False) w W → Calls Tryz.prog 65 #[.pointer (some ⟨b, 0, none⟩)] W fun e w' => e = .returned (.int .i64 (cnt F n : Nat)) ∧ Keep (fun _ => False) W w') := fun W K => by
    obtain ⟨S, h1, _⟩ := BF.keep0 h.bf K
    exact free_any h1
  clear h
  go_enter Tryz.func34, Tryz.ntmps34
  go_wp2_with (go_at_call 65; refine (HT.out _ (by (repeat (first | exact Keep.refl _ _ | exact Keep.refl _ _ | refine Keep.drew ?_ | refine Keep.drewN ?_ _ | refine Keep.alloc ?_ _ | refine Keep.setNew ?_ (by omega) _)); done)).mono ?_; rintro e w1 ⟨rfl, hk1⟩)
  go_ret
  exact ⟨rfl, (by (repeat (first | exact hk1 | exact Keep.refl _ _ | refine Keep.drew ?_ | refine Keep.drewN ?_ _ | refine Keep.alloc ?_ _ | refine Keep.setNew ?_ (by omega) _)); done)⟩
theorem kblocks (h : KO w B k b kr n F M N) : Calls Tryz.prog 60 #[.pointer (some ⟨k, 0, none⟩)] w (BlC F w) := by
  obtain ⟨z0, z1, z2⟩ := cells3 h.hk
  have HT := Lib.hid (fun W (K : Keep (fun _ => False) w W) => blocks_any (BF.keep0 h.bf K))
  clear h
  go_enter Tryz.func60, Tryz.ntmps60
  go_wp2_with (go_at_call 83; refine (HT.out _ (by (repeat (first | exact Keep.refl _ _ | exact Keep.refl _ _ | refine Keep.drew ?_ | refine Keep.drewN ?_ _ | refine Keep.alloc ?_ _ | refine Keep.setNew ?_ (by omega) _)); done)).mono ?_; rintro e w1 ⟨v, D, rfl, hO, hI, hl, hk1⟩)
  go_ret
  exact ⟨v, D, rfl, hO, hI, hl, (by (repeat (first | exact hk1 | exact Keep.refl _ _ | refine Keep.drew ?_ | refine Keep.drewN ?_ _ | refine Keep.alloc ?_ _ | refine Keep.setNew ?_ (by omega) _)); done)⟩
end

/- Part KB: Kinds: TakeAt, Give, Set, FreeOf, New; nil ones. -/
section
variable {w : World} {B k b kr n : Nat} {F : Nat → Bool} {M : Nat → Int} {N : Nat → Prop}
theorem khas_out (f : Int) (h : KO w B k b kr n F M N) (hf : f < 0 ∨ (n : Int) ≤ f) : Calls Tryz.prog 56 #[.pointer (some ⟨k, 0, none⟩), .int .i64 f] w fun e w' => e = .returned (.bool false) ∧ Keep (fun _ => False) w w' := by
  obtain ⟨z0, z1, z2⟩ := cells3 h.hk
  have HT : Hid (∀ W, Keep (fun _ => False) w W → Calls Tryz.prog 64 #[.pointer (some ⟨b, 0, none⟩), .int .i64 f] W fun e w' => e = .returned (.bool false) ∧ Keep (fun _ => False) W w') := fun W K => by
    obtain ⟨S, h1, _⟩ := BF.keep0 h.bf K
    exact has_out f h1 hf
  clear h hf
  go_enter Tryz.func56, Tryz.ntmps56
  go_wp2_with (go_at_call 64; refine (HT.out _ (by (repeat (first | exact Keep.refl _ _ | exact Keep.refl _ _ | refine Keep.drew ?_ | refine Keep.drewN ?_ _ | refine Keep.alloc ?_ _ | refine Keep.setNew ?_ (by omega) _)); done)).mono ?_; rintro e w1 ⟨rfl, hk1⟩)
  go_ret
  exact ⟨rfl, (by (repeat (first | exact hk1 | exact Keep.refl _ _ | refine Keep.drew ?_ | refine Keep.drewN ?_ _ | refine Keep.alloc ?_ _ | refine Keep.setNew ?_ (by omega) _)); done)⟩
/-- TakeAt and Give hand on what the buddy says. -/
theorem kat_pass (f o : Int) (h : KO w B k b kr n F M N) (Q : Int → World → Prop) (hq : Calls Tryz.prog 69 #[.pointer (some ⟨b, 0, none⟩), .int .i64 f, .int .i64 o] w fun e w' => ∃ er, e = .returned (.int .i64 er) ∧ Q er w') :
    Calls Tryz.prog 75 #[.pointer (some ⟨k, 0, none⟩), .int .i64 f, .int .i64 o] w fun e w' => ∃ er, e = .returned (.int .i64 er) ∧ Q er w' := by
  obtain ⟨z0, z1, z2⟩ := cells3 h.hk
  have HQ := Lib.hid hq
  clear h hq
  go_enter Tryz.func75, Tryz.ntmps75
  go_wp2_with (go_at_call 69; refine HQ.out.mono ?_; rintro e w1 ⟨er, rfl, hq⟩)
  go_ret
  exact ⟨er, rfl, hq⟩
theorem kgive_pass (f o : Int) (h : KO w B k b kr n F M N) (Q : Int → World → Prop) (hq : Calls Tryz.prog 81 #[.pointer (some ⟨b, 0, none⟩), .int .i64 f, .int .i64 o] w fun e w' => ∃ er, e = .returned (.int .i64 er) ∧ Q er w') :
    Calls Tryz.prog 58 #[.pointer (some ⟨k, 0, none⟩), .int .i64 f, .int .i64 o] w fun e w' => ∃ er, e = .returned (.int .i64 er) ∧ Q er w' := by
  obtain ⟨z0, z1, z2⟩ := cells3 h.hk
  have HQ := Lib.hid hq
  clear h hq
  go_enter Tryz.func58, Tryz.ntmps58
  go_wp2_with (go_at_call 81; refine HQ.out.mono ?_; rintro e w1 ⟨er, rfl, hq⟩)
  go_ret
  exact ⟨er, rfl, hq⟩
/-- One section's kind turned. -/
def setM (M : Nat → Int) (i : Nat) (x : Int) : Nat → Int := fun j => if j = i then x else M j
theorem KO.setM {i : Nat} (x : Int) (h : KO w B k b kr n F M N) : KO (w.setCell ⟨kr, i, none⟩ (.int .i64 x)) B k b kr n F (setM M i x) N ∧ Keep (fun z => z = kr) w (w.setCell ⟨kr, i, none⟩ (.int .i64 x)) := by
  have K : Keep (fun z => z = kr) w (w.setCell ⟨kr, i, none⟩ (.int .i64 x)) := (Keep.refl (fun z => z = kr) w).setCell (p := ⟨kr, i, none⟩) (fun _ => rfl) _
  obtain ⟨c, hc⟩ := h.bf.hp
  obtain ⟨c2, h2⟩ := h.mt.typ
  refine ⟨⟨?_, (h.bf.keep K (typ_ne hc h2 (by decide)) (fun z hz e => hz.1.2.2 (by rw [e]; exact h.nk))).gk (fun z hz => hz.1.2.2), h.mt.set x, h.nk, fun z hz => Nat.lt_of_lt_of_le (h.nl z hz) K.size, Nat.le_trans h.hB K.size⟩, K⟩
  rw [K.block k (block_lt h.hk) (typ_ne h.hk h2 (by decide))]
  exact h.hk
theorem kset_range (f x : Int) (h : KO w B k b kr n F M N) (hf : f < 0 ∨ (sec n : Int) ≤ f) : Calls Tryz.prog 78 #[.pointer (some ⟨k, 0, none⟩), .int .i64 f, .int .i64 x] w fun e w' => e = .returned (.int .i64 3) ∧ w' = w := by
  obtain ⟨z0, z1, z2⟩ := cells3 h.hk
  clear h
  by_cases h0 : f < 0
  · have t0 : decide (f < 0) = true := by simp; omega
    clear hf
    go_enter Tryz.func78, Tryz.ntmps78
    go_wp2
    go_ret
    exact ⟨rfl, rfl⟩
  · have t0 : decide (f < 0) = false := by simp; omega
    have t1 : decide ((sec n : Int) ≤ f) = true := by simp; omega
    clear hf
    go_enter Tryz.func78, Tryz.ntmps78
    go_wp2
    go_ret
    exact ⟨rfl, rfl⟩
theorem kset_arg (f x : Int) (h : KO w B k b kr n F M N) (hf : 0 ≤ f ∧ f < (sec n : Int)) (hx : x < 0 ∨ 3 < x) : Calls Tryz.prog 78 #[.pointer (some ⟨k, 0, none⟩), .int .i64 f, .int .i64 x] w fun e w' => e = .returned (.int .i64 2) ∧ w' = w := by
  obtain ⟨z0, z1, z2⟩ := cells3 h.hk
  clear h
  have t0 : decide (f < 0) = false := by simp; omega
  have t1 : decide ((sec n : Int) ≤ f) = false := by simp; omega
  clear hf
  by_cases h0 : x < 0
  · have t2 : decide (x < 0) = true := by simp; omega
    clear hx
    go_enter Tryz.func78, Tryz.ntmps78
    go_wp2
    go_ret
    exact ⟨rfl, rfl⟩
  · have t2 : decide (x < 0) = false := by simp; omega
    have t3 : decide (3 < x) = true := by simp; omega
    clear hx
    go_enter Tryz.func78, Tryz.ntmps78
    go_wp2
    go_ret
    exact ⟨rfl, rfl⟩
theorem kset_ok (i : Nat) (x : Int) (h : KO w B k b kr n F M N) (hi : i < sec n) (hx : 0 ≤ x ∧ x ≤ 3) : Calls Tryz.prog 78 #[.pointer (some ⟨k, 0, none⟩), .int .i64 (i : Int), .int .i64 x] w fun e w' => e = .returned (.int .i64 0) ∧ KO w' B k b kr n F (setM M i x) N ∧ Keep (fun z => z = kr) w w' := by
  obtain ⟨z0, z1, z2⟩ := cells3 h.hk
  have HK := Lib.hid (h.setM (i := i) x)
  have hc := h.mt.cell hi
  have hfz := h.mt.frozen i
  clear h
  have t0 : decide ((i : Int) < 0) = false := by simp
  have t1 : decide ((sec n : Int) ≤ (i : Int)) = false := by simp; omega
  have t1' : decide (sec n ≤ i) = false := by simp; omega
  have t2 : decide (x < 0) = false := by simp; omega
  have t3 : decide (3 < x) = false := by simp; omega
  have i0 : (0 : Int) ≤ i := by omega
  have i1 : (i : Int) < (sec n : Int) := by omega
  clear hx
  go_enter Tryz.func78, Tryz.ntmps78
  go_wp2
  go_ret
  exact ⟨rfl, HK.out⟩
end
theorem ktake_nil (o x : Int) (w : World) : Calls Tryz.prog 38 #[.pointer none, .int .i64 o, .int .i64 x] w fun e w' => e = .returned (.tuple #[.int .i64 0, .int .i64 1]) ∧ w' = w := by
  go_enter Tryz.func38, Tryz.ntmps38
  go_wp2
  go_ret2
  exact ⟨rfl, rfl⟩
theorem ktakeAt_nil (f o : Int) (w : World) : Calls Tryz.prog 75 #[.pointer none, .int .i64 f, .int .i64 o] w fun e w' => e = .returned (.int .i64 1) ∧ w' = w := by
  go_enter Tryz.func75, Tryz.ntmps75
  go_wp2
  go_ret
  exact ⟨rfl, rfl⟩
theorem kgive_nil (f o : Int) (w : World) : Calls Tryz.prog 58 #[.pointer none, .int .i64 f, .int .i64 o] w fun e w' => e = .returned (.int .i64 1) ∧ w' = w := by
  go_enter Tryz.func58, Tryz.ntmps58
  go_wp2
  go_ret
  exact ⟨rfl, rfl⟩
theorem kset_nil (f o : Int) (w : World) : Calls Tryz.prog 78 #[.pointer none, .int .i64 f, .int .i64 o] w fun e w' => e = .returned (.int .i64 1) ∧ w' = w := by
  go_enter Tryz.func78, Tryz.ntmps78
  go_wp2
  go_ret
  exact ⟨rfl, rfl⟩
theorem kkind_nil (f : Int) (w : World) : Calls Tryz.prog 62 #[.pointer none, .int .i64 f] w fun e w' => e = .returned (.int .i64 (-1)) ∧ w' = w := by
  go_enter Tryz.func62, Tryz.ntmps62
  go_wp2
  go_ret
  exact ⟨rfl, rfl⟩
theorem kfree_nil (w : World) : Calls Tryz.prog 34 #[.pointer none] w fun e w' => e = .returned (.int .i64 0) ∧ w' = w := by
  go_enter Tryz.func34, Tryz.ntmps34
  go_wp2
  go_ret
  exact ⟨rfl, rfl⟩
theorem kblocks_nil (w : World) : Calls Tryz.prog 60 #[.pointer none] w fun e w' => e = .returned (.slice none 0 0) ∧ w' = w := by
  go_enter Tryz.func60, Tryz.ntmps60
  go_wp2
  go_ret
  exact ⟨rfl, rfl⟩
theorem khas_nil (f : Int) (w : World) : Calls Tryz.prog 56 #[.pointer none, .int .i64 f] w fun e w' => e = .returned (.bool false) ∧ w' = w := by
  go_enter Tryz.func56, Tryz.ntmps56
  go_wp2
  go_ret
  exact ⟨rfl, rfl⟩
theorem kfreeOf_nil (f : Int) (w : World) : Calls Tryz.prog 33 #[.pointer none, .int .i64 f] w fun e w' => e = .returned (.int .i64 0) ∧ w' = w := by
  go_enter Tryz.func33, Tryz.ntmps33
  go_wp2
  refine wp_loop_once ?_
  go_wp2
  go_ret
  exact ⟨rfl, rfl⟩

/-- How many of a kind are free, among the first n. -/
def cntK (F : Nat → Bool) (M : Nat → Int) (x : Int) (n : Nat) : Nat := (List.range n).countP fun i => F i && decide (M (i / 8) = x)
theorem cntK_le (F : Nat → Bool) (M : Nat → Int) (x : Int) (n : Nat) : cntK F M x n ≤ n := by unfold cntK; have := List.countP_le_length (p := fun i => F i && decide (M (i / 8) = x)) (l := List.range n); simpa using this
theorem cntK_succ (F : Nat → Bool) (M : Nat → Int) (x : Int) (j : Nat) : cntK F M x (j + 1) = cntK F M x j + (if (F j && decide (M (j / 8) = x)) = true then 1 else 0) := by
  unfold cntK
  rw [List.range_succ, List.countP_append, List.countP_singleton]

set_option maxHeartbeats 1000000 in
theorem kfreeOf {w : World} {B k b kr n : Nat} {F : Nat → Bool} {M : Nat → Int} {N : Nat → Prop} (x : Int) (h : KO w B k b kr n F M N) :
    Calls Tryz.prog 33 #[.pointer (some ⟨k, 0, none⟩), .int .i64 x] w fun e w' => e = .returned (.int .i64 (cntK F M x n : Nat)) ∧ Keep (fun _ => False) w w' := by
  have HO := Lib.hid h
  have hn1 := h.bf.n1024
  clear h
  go_enter Tryz.func33, Tryz.ntmps33
  go_wp2
  go_loopw [5, 6] (fun c i wr => ∃ j : Nat, j ≤ n ∧ i = .int .i64 (j : Int) ∧ (∃ s : Nat, s = cntK F M x j ∧ c = .int .i64 (s : Int)) ∧ Keep (fun _ => False) w wr) (fun _ i _ => n - (intOf i).toNat)
  case atStart => exact ⟨0, by omega, rfl, ⟨0, rfl, rfl⟩, Keep.refl _ _⟩
  case round =>
    obtain ⟨j, hj, rfl, ⟨s, hs, rfl⟩, hk⟩ := hrel
    have HK := Lib.hid hk
    have HW := Lib.hid (HO.out.keep0 hk)
    obtain ⟨z0, z1, z2⟩ := cells3 HW.out.hk
    clear hk
    by_cases hjn : j < n
    · have hsl : s ≤ j := by rw [hs]; exact cntK_le F M x j
      have hsc := cntK_succ F M x j
      rw [← hs] at hsc
      have s1 : (s : Int) < 1024 := by omega
      have s0 : (0 : Int) ≤ s := Int.natCast_nonneg s
      have j0 : (0 : Int) ≤ j := Int.natCast_nonneg j
      have j1 : (j : Int) < (n : Int) := by omega
      have j2 : (j : Int) < 1024 := by omega
      have HKI := Lib.hid (kind_in HW.out hjn)
      by_cases hm : M (j / 8) = x
      · have t0 : (M (j / 8) == x) = true := by simp [hm]
        have HHAS : Hid (Calls Tryz.prog 64 #[.pointer (some ⟨b, 0, none⟩), .int .i64 (j : Int)] wr fun e w' => e = .returned (.bool (F j)) ∧ Keep (fun _ => False) wr w') := by
          obtain ⟨S, h1, h2, _⟩ := HW.out.bf
          exact has_in h1 h2 hjn
        cases hF : F j with
        | true =>
          rw [hF, decide_eq_true hm] at hsc
          rw [hF] at HHAS
          have HS := Lib.hid hsc
          clear hs hsc hF hm
          go_wp2_with (first | (go_at_call 62; refine HKI.out.mono ?_; rintro e w1 ⟨rfl, rfl⟩) | (go_at_call 64; refine HHAS.out.mono ?_; rintro e w2 ⟨rfl, hk2⟩; have HK2 := Lib.hid hk2; clear hk2))
          go_roundw
          case rel => exact ⟨j + 1, by omega, by go_num, ⟨s + 1, by rw [HS.out]; simp, by go_num⟩, HK.out.trans HK2.out⟩
          case measure => simp [intOf]; omega
        | false =>
          rw [hF] at hsc HHAS
          have HS := Lib.hid hsc
          clear hs hsc hF hm
          go_wp2_with (first | (go_at_call 62; refine HKI.out.mono ?_; rintro e w1 ⟨rfl, rfl⟩) | (go_at_call 64; refine HHAS.out.mono ?_; rintro e w2 ⟨rfl, hk2⟩; have HK2 := Lib.hid hk2; clear hk2))
          go_roundw
          case rel => exact ⟨j + 1, by omega, by go_num, ⟨s, by rw [HS.out]; simp, rfl⟩, HK.out.trans HK2.out⟩
          case measure => simp [intOf]; omega
      · have t0 : (M (j / 8) == x) = false := by simp [hm]
        rw [decide_eq_false hm, Bool.and_false] at hsc
        have HS := Lib.hid hsc
        clear hs hsc hm
        go_wp2_with (go_at_call 62; refine HKI.out.mono ?_; rintro e w1 ⟨rfl, rfl⟩)
        go_roundw
        case rel => exact ⟨j + 1, by omega, by go_num, ⟨s, by rw [HS.out]; simp, rfl⟩, HK.out⟩
        case measure => simp [intOf]; omega
    · have j1 : ¬ (j : Int) < (n : Int) := by omega
      obtain rfl : j = n := by omega
      have HS := Lib.hid hs
      clear hs
      go_wp2
      go_ret
      exact ⟨ret_int (by rw [HS.out]), HK.out⟩

/- Part KC: Kinds: New. -/
theorem info3' : (Tryz.prog.info? 3).map (fun i => (i.zero, i.size, i.bytes)) = some (some (.int .i64 0), 1, 8) := by kernel_rfl
theorem make33 (n : Nat) (h : n ≤ 100000) (w : World) : (Instr.makeSlice 48 (.int .i64 (n : Int)) (.int .i64 (n : Int))).run Tryz.prog w = .ok (.slice (some ⟨w.heap.size, 0, none⟩) n n) (w.alloc (.cells (Array.replicate n (.int .i64 0)) 3)) := by
  rw [run_make_row' 48 3 (.int .i64 0) 8 Tryz.underlying48 info3' rfl .i64 .i64 n (by omega) (by omega)]
  have e : madeCells #[Value.int .i64 0] n = Array.replicate n (.int .i64 0) := by
    rw [← List.toArray_replicate, ← toList_madeCells_one]
  rw [e]
theorem BF.gkl {w : World} {B p n : Nat} {F : Nat → Bool} {N G : Nat → Prop} (h : BF w B p n F G) (hN : ∀ z, z < w.heap.size → ¬ N z) : BF w B p n F (GK B N w) := by
  obtain ⟨S, ⟨V, h1, h2⟩, h3⟩ := h
  exact ⟨S, ⟨V, h1, fun j hj x hx => ⟨⟨((h1.hv j hj).lt x hx).1, ((h1.hv j hj).lt x hx).2, hN x ((h1.hv j hj).lt x hx).2⟩, own_typ (h1.hv j hj) hx⟩⟩, h3⟩
theorem sec_facts (n : Nat) (h : n ≤ 1024) : ∃ n8 n7 : Nat, IntKind.i64.wrap ((n : Int) + 8) = (n8 : Int) ∧ IntKind.i64.wrap ((n8 : Int) - 1) = (n7 : Int) ∧ Int.tdiv (n7 : Int) 8 = (sec n : Int) ∧ (n7 : Int) / 8 = (sec n : Int) ∧ n7 / 8 = sec n ∧ wrap64 (sec n : Int) = (sec n : Int) ∧ IntKind.i64.wrap (sec n : Int) = (sec n : Int) ∧ sec n ≤ 128 := by
  have hs : sec n ≤ 128 := by unfold sec; omega
  have e : (n + 7) / 8 = sec n := rfl
  refine ⟨n + 8, n + 7, ?_, ?_, ?_, ?_, e, IntWalk.wrap64_in _ (by omega), IntWalk.i64_in _ (by omega), hs⟩
  · rw [show (n : Int) + 8 = ((n + 8 : Nat) : Int) by omega]; exact IntWalk.i64_in _ (by omega)
  · rw [show ((n + 8 : Nat) : Int) - 1 = ((n + 7 : Nat) : Int) by omega]; exact IntWalk.i64_in _ (by omega)
  · rw [← e]; exact (Int.ofNat_tdiv (n + 7) 8).symm
  · rw [← e]; exact (Int.natCast_ediv (n + 7) 8).symm
theorem MetI.new (w : World) (n : Nat) (R : Array Value) (hR : Array.replicate n (.int .i64 0) = R) : MetI (w.alloc (.cells R 3)) w.heap.size n (fun _ => 0) :=
  ⟨R, heap_alloc_new w _, by rw [← hR]; simp, fun i hi => by rw [← hR]; simp [hi]⟩
theorem KO.new {w w1 : World} {b n : Nat} {R : Array Value} (h : BF w1 w.heap.size b n (upTo n) (fun x => w.heap.size ≤ x)) (hR : Array.replicate (sec n) (.int .i64 0) = R) (K : Keep (fun _ => False) w w1) :
    KO ((w1.alloc (.cells R 3)).alloc (.cells #[.pointer (some ⟨b, 0, none⟩), .int .i64 n, .slice (some ⟨w1.heap.size, 0, none⟩) (sec n) (sec n)] 101)) w.heap.size (w1.heap.size + 1) b w1.heap.size n (upTo n) (fun _ => 0) (fun z => z = w1.heap.size) := by
  have K2 : Keep (fun _ => False) w1 ((w1.alloc (.cells R 3)).alloc (.cells #[.pointer (some ⟨b, 0, none⟩), .int .i64 n, .slice (some ⟨w1.heap.size, 0, none⟩) (sec n) (sec n)] 101)) := ((Keep.refl _ _).alloc _).alloc _
  refine ⟨?_, (BF.keep0 (h.gkl (N := fun z => z = w1.heap.size) (fun z hz e => by omega)) K2).gk (fun z hz => hz.1.2.2), ?_, rfl, fun z hz => by subst hz; simp; omega, Nat.le_trans K.size K2.size⟩
  · have := heap_alloc_new (w1.alloc (.cells R 3)) (.cells #[.pointer (some ⟨b, 0, none⟩), .int .i64 n, .slice (some ⟨w1.heap.size, 0, none⟩) (sec n) (sec n)] 101)
    rw [World.size_alloc] at this
    exact this
  · exact (MetI.new w1 (sec n) R hR).keep (S := fun _ => False) ((Keep.refl _ _).alloc _) id
theorem KO.congr {w : World} {B k b kr n : Nat} {F : Nat → Bool} {M M' : Nat → Int} {N : Nat → Prop} (h : KO w B k b kr n F M N) (e : ∀ i, i < sec n → M i = M' i) : KO w B k b kr n F M' N :=
  ⟨h.hk, h.bf, h.mt.congr e, h.nk, h.nl, h.hB⟩

theorem setM_step (j i : Nat) : setM (fun i => if i < j then 1 else 0) j 1 i = if i < j + 1 then 1 else 0 := by
  unfold setM
  by_cases h1 : i = j
  · simp [h1]
  · by_cases h2 : i < j
    · simp [h1, h2]; omega
    · simp [h1, h2]; omega
theorem knew_bad (n : Int) (h : n < 8 ∨ 1024 < n) (w : World) : Calls Tryz.prog 40 #[.int .i64 n] w fun e w' => e = .returned (.tuple #[.pointer none, .int .i64 2]) ∧ Keep (fun _ => False) w w' := by
  have HB := Lib.hid h
  clear h
  go_enter Tryz.func40, Tryz.ntmps40
  go_wp2_with fail
  refine (new_bad n HB.out _).mono ?_
  rintro e w1 ⟨rfl, hk⟩
  go_wp2
  go_ret2
  exact ⟨rfl, (by (repeat (first | exact hk | exact Keep.refl _ _ | refine Keep.drew ?_ | refine Keep.drewN ?_ _ | refine Keep.alloc ?_ _ | refine Keep.setNew ?_ (by omega) _)); done)⟩
set_option maxRecDepth 100000 in
set_option maxHeartbeats 1000000 in
theorem knew_any (n : Nat) (h0 : 8 ≤ n) (h1 : n ≤ 1024) (w : World) : Calls Tryz.prog 40 #[.int .i64 (n : Int)] w fun e w' => ∃ k b kr, e = .returned (.tuple #[.pointer (some ⟨k, 0, none⟩), .int .i64 0]) ∧ KO w' w.heap.size k b kr n (upTo n) (fun _ => 1) (fun z => z = kr) ∧ w.heap.size ≤ k ∧ w.heap.size ≤ b ∧ w.heap.size ≤ kr ∧ Keep (fun _ => False) w w' := by
  obtain ⟨n8, n7, e1, e2, e3, e4, e5, e6, e7, hs⟩ := sec_facts n h1
  have HM := Lib.hid (And.intro h0 h1)
  obtain ⟨s, hse⟩ : ∃ s, sec n = s := ⟨_, rfl⟩
  have HSE := Lib.hid hse
  rw [hse] at e3 e4 e5 e6 e7 hs
  obtain ⟨R, hR⟩ : ∃ R, Array.replicate s (Value.int .i64 0) = R := ⟨_, rfl⟩
  have hmk := fun W => (make33 s (by omega) W)
  rw [hR] at hmk
  have HR : Hid (Array.replicate (sec n) (Value.int .i64 0) = R) := by unfold Hid; rw [HSE.out]; exact hR
  clear h0 h1 hse hR
  go_enter Tryz.func40, Tryz.ntmps40
  go_wp2_with fail
  refine (new_any n w.heap.size HM.out.1 HM.out.2 _ (Nat.le_refl _)).mono ?_
  rintro e w1 ⟨b, rfl, hb, hbl, hk1⟩
  have HK1 := Lib.hid hk1
  have HKO := Lib.hid (KO.new hb HR.out hk1)
  have HBL := Lib.hid hbl
  rw [HSE.out] at HKO
  have HKA : Hid (Keep (fun _ => False) w ((w1.alloc (.cells R 3)).alloc (.cells #[.pointer (some ⟨b, 0, none⟩), .int .i64 n, .slice (some ⟨w1.heap.size, 0, none⟩) s s] 101))) := (hk1.alloc _).alloc _
  clear hb hk1 hbl
  go_wp2
  have HKR : Hid (w.heap.size ≤ w1.heap.size) := HK1.out.size
  generalize (w1.alloc (.cells R 3)).alloc (.cells #[.pointer (some ⟨b, 0, none⟩), .int .i64 n, .slice (some ⟨w1.heap.size, 0, none⟩) s s] 101) = w2 at HKO HKA ⊢
  obtain ⟨kr, hkr⟩ : ∃ kr, w1.heap.size = kr := ⟨_, rfl⟩
  rw [hkr] at HKO HKR ⊢
  clear hkr e1 e2 e3 e4 e5 e6 e7 hmk HR HK1
  go_loopw [30] (fun i wr => ∃ j : Nat, j ≤ s ∧ i = .int .i64 (j : Int) ∧ KO wr w.heap.size (kr + 1) b kr n (upTo n) (fun i => if i < j then 1 else 0) (fun z => z = kr) ∧ Keep (fun _ => False) w wr) (fun i _ => s - (intOf i).toNat)
  case atStart => exact ⟨0, by omega, rfl, HKO.out.congr (fun i _ => by simp), HKA.out⟩
  case round =>
    obtain ⟨j, hj, rfl, hI, hk⟩ := hrel
    have HI := Lib.hid hI
    have HK := Lib.hid hk
    clear hI hk HKO HKA
    by_cases hjn : j < s
    · have j0 : (0 : Int) ≤ j := Int.natCast_nonneg j
      have j1 : (j : Int) < (s : Int) := by omega
      have j2 : (j : Int) < 1024 := by omega
      obtain ⟨z0, z1, z2⟩ := cells3 HI.out.hk
      have cm := HI.out.mt.cell (i := j) (by rw [HSE.out]; exact hjn)
      have fr := HI.out.mt.frozen j
      rw [HSE.out] at z2
      go_wp2
      go_roundw
      case rel => exact ⟨j + 1, by omega, by go_num, (HI.out.setM (i := j) 1).1.congr (fun i _ => setM_step j i), HK.out.setNew HKR.out _⟩
      case measure => simp [intOf]; omega
    · obtain rfl : j = s := by omega
      have j1 : ¬ (j : Int) < (j : Int) := by omega
      go_wp2
      go_ret2
      exact ⟨kr + 1, rfl, b, kr, HI.out.congr (fun i hi => by rw [HSE.out] at hi; rw [if_pos hi]), Nat.le_succ_of_le HKR.out, HBL.out, HKR.out, HK.out⟩

/- Part KD: Kinds: the plain answer of Take. -/
/-- Has a block an isolated section? -/
def alB (M : Nat → Int) (a k : Nat) : Bool := (List.range (2 ^ (k - 3))).any fun i => decide (M (a / 8 + i) = 3)
/-- The pieces of a block. -/
def pcB (M : Nat → Int) (x : Bk) : List Bk :=
  if x.o ≤ 3 ∨ alB M x.f.toNat x.o.toNat = false then [x] else (List.range (2 ^ (x.o.toNat - 3))).map fun (i : Nat) => (⟨x.f + 8 * i, 3⟩ : Bk)
def pcs (M : Nat → Int) (D : List Bk) : List Bk := D.flatMap (pcB M)
/-- The best so far, and one more. -/
def bst1 (M : Nat → Int) (x : Int) (great : Bool) (b : Option Bk) (y : Bk) : Option Bk :=
  if M (y.f.toNat / 8) = x then
    match b with
    | none => some y
    | some z => if (great = true ∧ z.o < y.o) ∨ (great = false ∧ y.o < z.o) then some y else some z
  else b
def bst (M : Nat → Int) (x : Int) (great : Bool) (L : List Bk) : Option Bk := L.foldl (bst1 M x great) none
/-- The kinds that are asked behind one's own. -/
def oth2 (x : Int) : Int × Int := if x = 0 then (2, 1) else if x = 1 then (2, 0) else (0, 1)
/-- Pieces of an order at least. -/
def pcO (M : Nat → Int) (D : List Bk) (o : Int) : List Bk := (pcs M D).filter fun y => decide (o ≤ y.o)
/-- What is taken: the piece, and is it of its own kind? -/
def tkP (M : Nat → Int) (D : List Bk) (o x : Int) : Option (Bk × Bool) :=
  match bst M x false (pcO M D o) with
  | some y => some (y, true)
  | none => match bst M (oth2 x).1 true (pcO M D o) with
    | some y => some (y, false)
    | none => match bst M (oth2 x).2 true (pcO M D o) with
      | some y => some (y, false)
      | none => none
/-- The kinds behind it. -/
def tkM (M : Nat → Int) (o x : Int) (y : Bk) (own : Bool) : Nat → Int := fun i =>
  if own = false ∧ 3 ≤ y.o ∧ y.f.toNat / 8 ≤ i ∧ 8 * i < y.f.toNat + 2 ^ o.toNat then x else M i

theorem bst1_mem {M : Nat → Int} {x : Int} {g : Bool} {b : Option Bk} {y z : Bk} (h : bst1 M x g b y = some z) : (b = some z) ∨ (z = y ∧ M (y.f.toNat / 8) = x) := by
  unfold bst1 at h
  split at h
  · next hm =>
    cases b with
    | none => simp at h; exact .inr ⟨h.symm, hm⟩
    | some u =>
      simp only at h
      split at h
      · simp at h; exact .inr ⟨h.symm, hm⟩
      · exact .inl h
  · exact .inl h
theorem bst_mem {M : Nat → Int} {x : Int} {g : Bool} : ∀ {L : List Bk} {b : Option Bk} {z : Bk}, L.foldl (bst1 M x g) b = some z → b = some z ∨ (z ∈ L ∧ M (z.f.toNat / 8) = x)
  | [], b, z, h => .inl h
  | y :: L, b, z, h => by
    rw [List.foldl_cons] at h
    rcases bst_mem h with h | ⟨h1, h2⟩
    · rcases bst1_mem h with h | ⟨rfl, h2⟩
      · exact .inl h
      · exact .inr ⟨List.mem_cons_self .., h2⟩
    · exact .inr ⟨List.mem_cons_of_mem _ h1, h2⟩
theorem bst_in {M : Nat → Int} {x : Int} {g : Bool} {L : List Bk} {z : Bk} (h : bst M x g L = some z) : z ∈ L ∧ M (z.f.toNat / 8) = x := by
  rcases bst_mem h with h | h
  · cases h
  · exact h
/-- The reference's way: what is too small or of another kind is passed over. -/
theorem bst_filter (M : Nat → Int) (x o : Int) (g : Bool) : ∀ (L : List Bk) (b : Option Bk), (L.filter fun y => decide (o ≤ y.o)).foldl (bst1 M x g) b = L.foldl (fun b y => if o ≤ y.o then bst1 M x g b y else b) b
  | [], b => rfl
  | y :: L, b => by
    rw [List.foldl_cons]
    by_cases h : o ≤ y.o
    · rw [List.filter_cons_of_pos (by simpa using h), List.foldl_cons, if_pos h]; exact bst_filter M x o g L _
    · rw [List.filter_cons_of_neg (by simpa using h), if_neg h]; exact bst_filter M x o g L _
/-- A piece is free, even, and lies where there are frames. -/
def fineP (F : Nat → Bool) (n : Nat) (y : Bk) : Prop := ∃ a k : Nat, y = ⟨(a : Int), (k : Int)⟩ ∧ k ≤ 8 ∧ a % 2 ^ k = 0 ∧ blk F k a ∧ a + 2 ^ k ≤ n
theorem blk_end {F : Nat → Bool} {n a k : Nat} (hF : ∀ i, F i = true → i < n) (hb : blk F k a) : a + 2 ^ k ≤ n := by
  have := p2 k
  have := hF (a + 2 ^ k - 1) (hb _ (by omega) (by omega))
  omega
theorem p8 {k : Nat} (h : 3 ≤ k) : 2 ^ k = 8 * 2 ^ (k - 3) := by
  obtain ⟨j, rfl⟩ : ∃ j, k = 3 + j := ⟨k - 3, by omega⟩
  rw [Nat.pow_add, show 3 + j - 3 = j by omega]
theorem pcs_fine {F : Nat → Bool} {M : Nat → Int} {D : List Bk} {n : Nat} (hb : IsBl F D) (hF : ∀ i, F i = true → i < n) {y : Bk} (h : y ∈ pcs M D) : fineP F n y := by
  unfold pcs at h
  rw [List.mem_flatMap] at h
  obtain ⟨x, hx, hy⟩ := h
  obtain ⟨k, a, hm, rfl⟩ := (hb.2 x).mp hx
  have hend := blk_end hF hm.2.2.1
  unfold pcB at hy
  split at hy
  · simp at hy
    subst hy
    exact ⟨a, k, rfl, hm.1, hm.2.1, hm.2.2.1, hend⟩
  · next hk =>
    simp only [Int.toNat_natCast] at hy
    rw [List.mem_map] at hy
    obtain ⟨i, hi, rfl⟩ := hy
    rw [List.mem_range] at hi
    have hk3 : 3 ≤ k := by
      rcases Nat.lt_or_ge k 3 with h | h
      · exact absurd (.inl (by simp; omega)) hk
      · exact h
    have h8 := p8 hk3
    have ha : a % 8 = 0 := by have := mod_of_le (j := 3) hk3 hm.2.1; simpa using this
    refine ⟨a + 8 * i, 3, by simp, by omega, by simp; omega, ?_, by simp; omega⟩
    exact blk_in hm.2.2.1 (by omega) (by simp; omega)

end Go.Proofs.YtjffdimlbppgcaaGreat
