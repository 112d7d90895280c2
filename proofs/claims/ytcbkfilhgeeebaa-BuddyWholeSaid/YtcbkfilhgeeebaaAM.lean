/- Buddy: the world of both: what a call keeps. -/
import Derived.Test.YtcbkfilhgeeebaaAL
set_option linter.unusedVariables false
set_option linter.unusedSimpArgs false
namespace Go.Proofs.Ytcbkfilhgeeebaa
open Go.RowKit Go.Own

/-- What may have changed lies beyond B. -/
def Up (B : Nat) (w w' : World) : Prop := Keep (fun z => B ≤ z) w w'
theorem Up.of {B : Nat} {w w' : World} (h : Keep (fun _ => False) w w') : Up B w w' := h.mono fun _ _ h => h.elim
theorem cells3 {w : World} {b e : Nat} {x0 x1 x2 : Value} {z : Nat × Nat} (hb : w.heap[b]? = some (.cells #[x0, x1, x2] e z)) :
    w.cell? ⟨b, 0, none⟩ = some x0 ∧ w.cell? ⟨b, 1, none⟩ = some x1 ∧ w.cell? ⟨b, 2, none⟩ = some x2 := ⟨by simp [cell_block hb], by simp [cell_block hb], by simp [cell_block hb]⟩
theorem Two.other {w w' : World} {B p x g n : Nat} {F : Nat → Bool} {S : Nat → Prop} (h : Two w B p x g n F) (k : Keep S w w') (hS : ∀ z, z < w.heap.size → S z → ∃ c e, w.heap[z]? = some (.cells c e (0, 0)) ∧ (e = 46 ∨ e = 55)) : Two w' B p x g n F := by
  have hn : ∀ b e c, w.heap[b]? = some (.cells c e (0, 0)) → e ≠ 46 → e ≠ 55 → ¬ S b := by
    intro b e c hb h1 h2 hs
    obtain ⟨c', e', h', he⟩ := hS b (block_lt hb) hs
    rw [hb] at h'
    injection h' with h'
    injection h' with _ h' _
    subst h'
    rcases he with rfl | rfl
    · exact h1 rfl
    · exact h2 rfl
  obtain ⟨c, hc⟩ := h.1.hp
  have hx := h.2.1.1
  obtain ⟨C, hg, _⟩ := h.2.1.2
  refine ⟨(h.1.keep k (hn _ _ _ hc (by decide) (by decide)) ?_).typ, h.2.1.keep k (hn _ _ _ hx (by decide) (by decide)) (hn _ _ _ hg (by decide) (by decide)), h.2.2.1, h.2.2.2.1, h.2.2.2.2.1, Nat.le_trans h.2.2.2.2.2 k.size⟩
  rintro z ⟨_, c2, h2⟩
  exact hn _ _ _ h2 (by decide) (by decide)
theorem St.base {w : World} {B q p x g n : Nat} {F : Nat → Bool} {v : Value} {T : List Bk} (h : St w B q p x g n F v T) : B ≤ w.heap.size := h.1.2.2.2.2.2
theorem St.put {w w' : World} {B q p x g n : Nat} {F : Nat → Bool} {v v' : Value} {T T' : List Bk} (h : St w B q p x g n F v T) (k : Keep (fun z => v.ownBlock = some z) w w') (ho : OwnL bkE w' B 55 v' T') :
    St (w'.setCell ⟨q, 2, none⟩ v') B q p x g n F v' T' ∧ Up B w (w'.setCell ⟨q, 2, none⟩ v') := by
  have hq := h.2.1
  have hq' : w'.heap[q]? = some (.cells #[.pointer (some ⟨p, 0, none⟩), .pointer (some ⟨x, 0, none⟩), v] 46 (0, 0)) := by
    rw [k.block q (block_lt hq) ?_]
    · exact hq
    · intro e
      obtain ⟨c, hc⟩ := own_typ h.2.2.1 e
      exact typ_ne hq hc (by decide) rfl
  have K1 : Keep (fun z => z = q ∨ v.ownBlock = some z) w (w'.setCell ⟨q, 2, none⟩ v') := (k.mono fun _ _ h => .inr h).setCell (fun _ => .inl rfl) _
  have K2 : Keep (fun z => z = q) w' (w'.setCell ⟨q, 2, none⟩ v') := (Keep.refl (fun z => z = q) w').setCell (p := ⟨q, 2, none⟩) (fun _ => rfl) v'
  refine ⟨⟨h.1.other K1 ?_, ?_, ho.keep K2 ?_, h.2.2.2⟩, K1.mono ?_⟩
  · rintro z _ (rfl | e)
    · exact ⟨_, _, hq, .inl rfl⟩
    · obtain ⟨c, hc⟩ := own_typ h.2.2.1 e
      exact ⟨_, _, hc, .inr rfl⟩
  · rw [heap_setCell_eq hq']; simp
  · intro z hz e
    subst e
    obtain ⟨c, hc⟩ := own_typ ho hz
    exact typ_ne hq' hc (by decide) rfl
  · rintro z _ (rfl | e)
    · exact h.2.2.2
    · exact (h.2.2.1.lt z e).1
theorem kt_block {w w' : World} {B p x g n b e : Nat} {F : Nat → Bool} {c : Array Value} (h : Two w B p x g n F) (k : KT B p g w w') (hb : w.heap[b]? = some (.cells c e (0, 0))) (he : e ≠ 63 ∧ e ≠ 3 ∧ e ≠ 4) : w'.heap[b]? = some (.cells c e (0, 0)) := by
  rw [k.block b (block_lt hb) ?_]
  · exact hb
  · rintro (rfl | ⟨_, c2, h2⟩ | rfl)
    · obtain ⟨c, hc⟩ := h.1.hp
      exact typ_ne hb hc he.1 rfl
    · exact typ_ne hb h2 he.2.1 rfl
    · obtain ⟨C, hg, _⟩ := h.2.1.2
      exact typ_ne hb hg he.2.2 rfl
theorem kt_up {w w' : World} {B p x g n : Nat} {F : Nat → Bool} (h : Two w B p x g n F) (k : KT B p g w w') : Up B w w' := k.mono fun z _ hz => by
  rcases hz with rfl | ⟨h1, _⟩ | rfl
  · exact h.2.2.1
  · exact h1.1
  · exact h.2.2.2.2.1
theorem St.on {w w' : World} {B q p x g n : Nat} {F F' : Nat → Bool} {v : Value} {T : List Bk} (h : St w B q p x g n F v T) (k : KT B p g w w') (h2 : Two w' B p x g n F') : St w' B q p x g n F' v T := by
  refine ⟨h2, kt_block h.1 k h.2.1 (by decide), h.2.2.1.keep k ?_, h.2.2.2⟩
  intro z hz hs
  obtain ⟨c, hc⟩ := own_typ h.2.2.1 hz
  rcases hs with rfl | ⟨_, c2, h2⟩ | rfl
  · obtain ⟨c', hc'⟩ := h.1.1.hp
    exact typ_ne hc hc' (by decide) rfl
  · exact typ_ne hc h2 (by decide) rfl
  · obtain ⟨C, hg, _⟩ := h.1.2.1.2
    exact typ_ne hc hg (by decide) rfl
theorem St.keep0 {w w' : World} {B q p x g n : Nat} {F : Nat → Bool} {v : Value} {T : List Bk} (h : St w B q p x g n F v T) (k : Keep (fun _ => False) w w') : St w' B q p x g n F v T :=
  ⟨h.1.keep0 k, (k.block q (block_lt h.2.1) id).trans h.2.1, h.2.2.1.keep k (fun _ _ => id), h.2.2.2⟩
/-- The world's row of what was taken. -/
def Own46 (w : World) (q : Nat) (v : Value) : Prop := ∃ x y, w.heap[q]? = some (.cells #[x, y, v] 46 (0, 0))
/-- Other rows of blocks stay. -/
def Off (q : Nat) (w w' : World) : Prop := ∀ v, Own46 w q v → ∃ v', Own46 w' q v' ∧ ∀ b c, w.heap[b]? = some (.cells c 55 (0, 0)) → v.ownBlock ≠ some b → w'.heap[b]? = some (.cells c 55 (0, 0)) ∧ v'.ownBlock ≠ some b
theorem Off.trans {q : Nat} {w w' w'' : World} (h : Off q w w') (k : Off q w' w'') : Off q w w'' := fun v hv => by
  obtain ⟨v', h1, h2⟩ := h v hv
  obtain ⟨v'', k1, k2⟩ := k v' h1
  exact ⟨v'', k1, fun b c hb hn => by
    obtain ⟨h3, h4⟩ := h2 b c hb hn
    exact k2 b c h3 h4⟩
theorem Off.of {q : Nat} {w w' : World} (K : Keep (fun _ => False) w w') : Off q w w' := fun v ⟨x, y, h⟩ =>
  ⟨v, ⟨x, y, (K.block q (block_lt h) id).trans h⟩, fun b c hb hn => ⟨(K.block b (block_lt hb) id).trans hb, hn⟩⟩
theorem Off.kt {w w' : World} {B p x g n q : Nat} {F : Nat → Bool} (h : Two w B p x g n F) (k : KT B p g w w') : Off q w w' := fun v ⟨a, b, hq⟩ =>
  ⟨v, ⟨a, b, kt_block h k hq (by decide)⟩, fun _ _ hb hn => ⟨kt_block h k hb (by decide), hn⟩⟩
theorem St.put_off {w w' : World} {B q p x g n : Nat} {F : Nat → Bool} {v v' : Value} {T : List Bk} (h : St w B q p x g n F v T) (k : Keep (fun z => v.ownBlock = some z) w w') (hv : ∀ z, v'.ownBlock = some z → v.ownBlock = some z ∨ w.heap.size ≤ z) :
    Off q w (w'.setCell ⟨q, 2, none⟩ v') := by
  rintro v1 ⟨a, b, hq1⟩
  have hq := h.2.1
  rw [hq] at hq1
  injection hq1 with hq1
  injection hq1 with hq1 _ _
  obtain rfl : v = v1 := by simpa using congrArg (fun c : Array Value => c.getD 2 (.slice none 0 0)) hq1
  have hq' : w'.heap[q]? = some (.cells #[.pointer (some ⟨p, 0, none⟩), .pointer (some ⟨x, 0, none⟩), v] 46 (0, 0)) := by
    rw [k.block q (block_lt hq) ?_]
    · exact hq
    · intro e
      obtain ⟨c, hc⟩ := own_typ h.2.2.1 e
      exact typ_ne hq hc (by decide) rfl
  refine ⟨v', ⟨_, _, by rw [heap_setCell_eq hq']; simp; exact ⟨rfl, rfl⟩⟩, fun z c hz hn => ⟨?_, fun e => ?_⟩⟩
  · rw [heap_setCell_ne (typ_ne hz hq (by decide))]
    exact (k.block z (block_lt hz) hn).trans hz
  · rcases hv z e with e | e
    · exact hn e
    · have := block_lt hz; omega
/-- What is beyond B may have changed, but no other row of blocks. -/
structure UpO (q B : Nat) (w w' : World) : Prop where
  up : Up B w w'
  off : Off q w w'
theorem UpO.trans {q B : Nat} {w w' w'' : World} (h : UpO q B w w') (k : UpO q B w' w'') : UpO q B w w'' := ⟨Keep.trans h.up k.up, h.off.trans k.off⟩
theorem UpO.of {q B : Nat} {w w' : World} (K : Keep (fun _ => False) w w') : UpO q B w w' := ⟨Up.of K, Off.of K⟩
theorem UpO.kt {w w' : World} {B p x g n q : Nat} {F : Nat → Bool} (h : Two w B p x g n F) (k : KT B p g w w') : UpO q B w w' := ⟨kt_up h k, Off.kt h k⟩
theorem St.putO {w w' : World} {B q p x g n : Nat} {F : Nat → Bool} {v v' : Value} {T T' : List Bk} (h : St w B q p x g n F v T) (k : Keep (fun z => v.ownBlock = some z) w w') (ho : OwnL bkE w' B 55 v' T') (hv : ∀ z, v'.ownBlock = some z → v.ownBlock = some z ∨ w.heap.size ≤ z) :
    St (w'.setCell ⟨q, 2, none⟩ v') B q p x g n F v' T' ∧ UpO q B w (w'.setCell ⟨q, 2, none⟩ v') := ⟨(h.put k ho).1, (h.put k ho).2, h.put_off k hv⟩
/-- Both, and what was taken. -/
def Wd (w : World) (B q p x g n : Nat) (F : Nat → Bool) (T : List Bk) : Prop := ∃ v, St w B q p x g n F v T ∧ TkP n F T
theorem Wd.keep0 {w w' : World} {B q p x g n : Nat} {F : Nat → Bool} {T : List Bk} (h : Wd w B q p x g n F T) (k : Keep (fun _ => False) w w') : Wd w' B q p x g n F T := by
  obtain ⟨v, h1, h2⟩ := h
  exact ⟨v, h1.keep0 k, h2⟩
theorem wrE_zero {n a k : Nat} (hk : k ≤ 8) (ha : a % 2 ^ k = 0) (hn : a + 2 ^ k ≤ n) : wrE n a k = 0 := by
  have := p2 k
  have e : ((a : Int)) % ((2 ^ k : Nat) : Int) = 0 := by rw [← Int.natCast_emod, ha]; rfl
  unfold wrE
  rw [Int.toNat_natCast, if_neg (by omega), if_neg (by omega)]
/-- What give does. -/
def GvC (w : World) (B q p x g n : Nat) (F : Nat → Bool) (T : List Bk) (e : Ending) (w' : World) : Prop :=
  e = .returned (.bool true) ∧ ∃ F' T', Wd w' B q p x g n F' T' ∧ T'.length ≤ T.length ∧ cnt F n < cnt F' n ∧ UpO q B w w'
/-- Give and Change of a block that is taken. -/
theorem pair_ok {w : World} {B p x g n a k : Nat} {F : Nat → Bool} (h : Two w B p x g n F) (hk : k ≤ 8) (ha : a % 2 ^ k = 0) (hn : a + 2 ^ k ≤ n) (hb : ∀ i, a ≤ i → i < a + 2 ^ k → F i = false) :
    Calls Try.prog 22 #[.pointer (some ⟨p, 0, none⟩), .int .i64 a, .int .i64 k] w fun e w1 => e = .returned (.int .i64 0) ∧
      NxT B p x g n w w1 34 #[.pointer (some ⟨x, 0, none⟩), .int .i64 a, .int .i64 k, .bool true] (.int .i64 0) (addB F k a) ∧ KT B p g w w1 := by
  have hw := wrE_zero hk ha hn
  have hf : i64B (a : Int) := by unfold i64B; have := h.1.n1024; have := p2 k; omega
  refine (give_ok h.2.2.2.2.2 h.1 (fun z hz => hz.1.2) hw hk ha hn hb).mono ?_
  rintro e w1 ⟨rfl, ht⟩
  obtain ⟨hbf, hrx, hkt⟩ := h.took ht
  refine ⟨rfl, fun w2 k2 => (ref_ok a k true (hrx.keep k2 id id) h.1.n1024 hf hw ((allB_free hn).mpr hb)).mono ?_, hkt⟩
  rintro e w3 ⟨rfl, hr3, hk3⟩
  rw [putB_true] at hr3
  obtain ⟨t1, t2⟩ := h.refd hbf hrx hkt k2 hr3 hk3
  exact ⟨rfl, t1, t2⟩

end Go.Proofs.Ytcbkfilhgeeebaa
