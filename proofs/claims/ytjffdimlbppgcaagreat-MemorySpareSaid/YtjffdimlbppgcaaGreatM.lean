/- Buddy: New. -/
import Derived.Test.YtjffdimlbppgcaaGreatH
import Derived.Laws.Bits128
set_option linter.unusedVariables false
set_option linter.unusedSimpArgs false
namespace Go.Proofs.YtjffdimlbppgcaaGreat
open Go.RowKit Go.Own

/- Part I: Buddy: wrong, TakeAt. -/
theorem and_lo (k : Nat) (hk : k ≤ 8) (n : Int) : bits .and .i64 n (((2 ^ k : Nat) : Int) - 1) = n % ((2 ^ k : Nat) : Int) := by
  have hm : (BitVec.ofInt 64 (((2 ^ k : Nat) : Int) - 1)).toNat = 2 ^ k - 1 := by
    rcases le8 hk with rfl | rfl | rfl | rfl | rfl | rfl | rfl | rfl | rfl <;> decide
  have key : (BitVec.ofInt 64 n &&& BitVec.ofInt 64 (((2 ^ k : Nat) : Int) - 1)).toNat = (n % ((2 ^ 64 : Nat) : Int)).toNat % 2 ^ k := by
    rw [BitVec.toNat_and, BitVec.toNat_ofInt, hm, Nat.and_two_pow_sub_one_eq_mod]
  show IntKind.i64.wrap ((BitVec.ofInt 64 n &&& BitVec.ofInt 64 (((2 ^ k : Nat) : Int) - 1)).toNat : Nat) = n % ((2 ^ k : Nat) : Int)
  rw [key, IntKind.wrap_i64]
  rcases le8 hk with rfl | rfl | rfl | rfl | rfl | rfl | rfl | rfl | rfl <;> simp <;> omega
/-- What is wrong with a block. -/
def wrE (n : Nat) (f o : Int) : Int := if o < 0 ∨ 8 < o ∨ f % ((2 ^ o.toNat : Nat) : Int) ≠ 0 then 2 else if f < 0 ∨ (n : Int) ≤ f ∨ (n : Int) - f < ((2 ^ o.toNat : Nat) : Int) then 3 else 0
theorem wrE_ok {n : Nat} {f o : Int} (h : wrE n f o = 0) : ∃ f' o' : Nat, f = f' ∧ o = o' ∧ o' ≤ 8 ∧ f' % 2 ^ o' = 0 ∧ f' + 2 ^ o' ≤ n := by
  unfold wrE at h
  split at h
  · cases h
  · rename_i h1
    split at h
    · cases h
    · rename_i h2
      obtain ⟨o', rfl⟩ := Int.eq_ofNat_of_zero_le (show 0 ≤ o by omega)
      obtain ⟨f', rfl⟩ := Int.eq_ofNat_of_zero_le (show 0 ≤ f by omega)
      rw [Int.toNat_natCast] at h1 h2
      refine ⟨f', o', rfl, rfl, by omega, ?_, by omega⟩
      have h3 : (f' : Int) % ((2 ^ o' : Nat) : Int) = 0 := by
        by_cases e : (f' : Int) % ((2 ^ o' : Nat) : Int) = 0
        · exact e
        · exact absurd (.inr (.inr e)) h1
      rw [← Int.natCast_emod] at h3
      exact Int.ofNat.inj h3
theorem wr_n (n : Nat) (f : Int) (hn : n ≤ 1024) (h0 : 0 ≤ f) (h1 : f < n) : IntKind.i64.wrap ((n : Int) - f) = (n : Int) - f := IntWalk.i64_in _ (by omega)

set_option maxRecDepth 100000 in
set_option maxHeartbeats 2000000 in
theorem wrong_any {w : World} {B p n : Nat} {S : Nat → Nat → Bool} {fr : Int} {G : Nat → Prop} (f o : Int) (h : BS w B p n S fr G) :
    Calls Tryz.prog 87 #[.pointer (some ⟨p, 0, none⟩), .int .i64 f, .int .i64 o] w fun e w' => e = .returned (.int .i64 (wrE n f o)) ∧ Keep (fun _ => False) w w' := by
  have c0 : w.cell? ⟨p, 0, none⟩ = some (.int .i64 (n : Int)) := by obtain ⟨V, h1, _⟩ := h; exact h1.c0
  have hn : n ≤ 1024 := by obtain ⟨V, h1, _⟩ := h; exact h1.hn
  clear h
  by_cases h0 : o < 0
  · have HE : Hid (wrE n f o = 2) := by unfold Hid wrE; rw [if_pos (.inl h0)]
    go_enter Tryz.func87, Tryz.ntmps87
    go_wp2
    go_ret
    exact ⟨ret_int HE.out.symm, (by (repeat (first | exact Keep.refl _ _ | exact Keep.refl _ _ | refine Keep.drew ?_ | refine Keep.drewN ?_ _ | refine Keep.alloc ?_ _ | refine Keep.setNew ?_ (by omega) _)); done)⟩
  by_cases h8 : 8 < o
  · have HE : Hid (wrE n f o = 2) := by unfold Hid wrE; rw [if_pos (.inr (.inl h8))]
    go_enter Tryz.func87, Tryz.ntmps87
    go_wp2
    go_ret
    exact ⟨ret_int HE.out.symm, (by (repeat (first | exact Keep.refl _ _ | exact Keep.refl _ _ | refine Keep.drew ?_ | refine Keep.drewN ?_ _ | refine Keep.alloc ?_ _ | refine Keep.setNew ?_ (by omega) _)); done)⟩
  obtain ⟨k, rfl⟩ := Int.eq_ofNat_of_zero_le (show 0 ≤ o by omega)
  have hk : k ≤ 8 := by omega
  have hb := and_lo k hk f
  have hp := pw k hk
  obtain ⟨e1, e2⟩ := pw_w k hk
  have hw : wrE n f (k : Int) = if f % ((2 ^ k : Nat) : Int) ≠ 0 then 2 else if f < 0 ∨ (n : Int) ≤ f ∨ (n : Int) - f < ((2 ^ k : Nat) : Int) then 3 else 0 := by
    unfold wrE
    rw [Int.toNat_natCast]
    by_cases e : f % ((2 ^ k : Nat) : Int) ≠ 0
    · rw [if_pos (.inr (.inr e)), if_pos e]
    · rw [if_neg (fun hh => hh.elim h0 (fun hh => hh.elim h8 e)), if_neg e]
  obtain ⟨P, hP⟩ : ∃ P, 2 ^ k = P := ⟨_, rfl⟩
  rw [hP] at hb hp e1 e2 hw
  obtain ⟨s1, s2⟩ := p_sub P hp
  clear hP h0 h8
  have k8 : (k : Int) ≤ 8 := by omega
  have kz : (0 : Int) ≤ (k : Int) := Int.natCast_nonneg k
  by_cases hf : f % (P : Int) = 0
  · rw [if_neg (by simpa using hf)] at hw
    have t1 : (f % (P : Int) != 0) = false := by rw [bne_eq_false_iff_eq]; exact hf
    clear hf
    by_cases h1 : f < 0
    · rw [if_pos (.inl h1)] at hw
      have HE := Lib.hid hw
      have t2 : decide (f < 0) = true := decide_eq_true h1
      clear hw
      go_enter Tryz.func87, Tryz.ntmps87
      go_wp2
      go_quiet (fail)
      go_wp2
      go_ret
      exact ⟨ret_int HE.out.symm, (by (repeat (first | exact Keep.refl _ _ | exact Keep.refl _ _ | refine Keep.drew ?_ | refine Keep.drewN ?_ _ | refine Keep.alloc ?_ _ | refine Keep.setNew ?_ (by omega) _)); done)⟩
    have t2 : decide (f < 0) = false := decide_eq_false h1
    by_cases h2 : (n : Int) ≤ f
    · rw [if_pos (.inr (.inl h2))] at hw
      have HE := Lib.hid hw
      have t3 : decide ((n : Int) ≤ f) = true := decide_eq_true h2
      clear hw
      go_enter Tryz.func87, Tryz.ntmps87
      go_wp2
      go_quiet (fail)
      go_wp2
      go_ret
      exact ⟨ret_int HE.out.symm, (by (repeat (first | exact Keep.refl _ _ | exact Keep.refl _ _ | refine Keep.drew ?_ | refine Keep.drewN ?_ _ | refine Keep.alloc ?_ _ | refine Keep.setNew ?_ (by omega) _)); done)⟩
    have t3 : decide ((n : Int) ≤ f) = false := decide_eq_false h2
    have a1 := wr_n n f hn (by omega) (by omega)
    by_cases h3 : (n : Int) - f < (P : Int)
    · rw [if_pos (.inr (.inr h3))] at hw
      have HE := Lib.hid hw
      have t4 : decide ((n : Int) - f < (P : Int)) = true := decide_eq_true h3
      clear hw
      go_enter Tryz.func87, Tryz.ntmps87
      go_wp2
      go_quiet (fail)
      go_wp2
      go_ret
      exact ⟨ret_int HE.out.symm, (by (repeat (first | exact Keep.refl _ _ | exact Keep.refl _ _ | refine Keep.drew ?_ | refine Keep.drewN ?_ _ | refine Keep.alloc ?_ _ | refine Keep.setNew ?_ (by omega) _)); done)⟩
    · rw [if_neg (fun hh => hh.elim h1 (fun hh => hh.elim h2 h3))] at hw
      have HE := Lib.hid hw
      have t4 : decide ((n : Int) - f < (P : Int)) = false := decide_eq_false h3
      clear hw
      go_enter Tryz.func87, Tryz.ntmps87
      go_wp2
      go_quiet (fail)
      go_wp2
      go_ret
      exact ⟨ret_int HE.out.symm, (by (repeat (first | exact Keep.refl _ _ | exact Keep.refl _ _ | refine Keep.drew ?_ | refine Keep.drewN ?_ _ | refine Keep.alloc ?_ _ | refine Keep.setNew ?_ (by omega) _)); done)⟩
  · rw [if_pos hf] at hw
    have HE := Lib.hid hw
    have t1 : (f % (P : Int) != 0) = true := by rw [bne_iff_ne]; exact hf
    clear hw hf
    go_enter Tryz.func87, Tryz.ntmps87
    go_wp2
    go_ret
    exact ⟨ret_int HE.out.symm, (by (repeat (first | exact Keep.refl _ _ | exact Keep.refl _ _ | refine Keep.drew ?_ | refine Keep.drewN ?_ _ | refine Keep.alloc ?_ _ | refine Keep.setNew ?_ (by omega) _)); done)⟩
set_option maxHeartbeats 400000 in
theorem wrong_nil (f o : Int) (w : World) : Calls Tryz.prog 87 #[.pointer none, .int .i64 f, .int .i64 o] w fun e w' => e = .returned (.int .i64 1) ∧ Keep (fun _ => False) w w' := by
  go_enter Tryz.func87, Tryz.ntmps87
  go_wp2
  go_ret
  exact ⟨rfl, (by (repeat (first | exact Keep.refl _ _ | exact Keep.refl _ _ | refine Keep.drew ?_ | refine Keep.drewN ?_ _ | refine Keep.alloc ?_ _ | refine Keep.setNew ?_ (by omega) _)); done)⟩

/-- The block of a free stretch. -/
theorem mx_over {F : Nat → Bool} {k o f : Nat} (hm : mx F k (dn k f)) (ho : o ≤ 8) (hf : f % 2 ^ o = 0) : blk F o f ↔ o ≤ k := by
  have hp := p2 o
  constructor
  · intro hb
    obtain ⟨j, h1, h2⟩ := mx_up (F := F) f (8 - o) o (by omega) (by rw [dn_self hf]; exact hb)
    obtain ⟨h3, -⟩ := mx_uniq hm h2 (dn_le k f) (dn_lt k f) (dn_le j f) (dn_lt j f)
    omega
  · intro hk
    have q1 := dn_le k f
    have q2 := dn_lt k f
    rcases dy hk hf hm.2.1 with h' | h'
    · exact blk_in hm.2.2.1 h'.1 h'.2
    · omega
theorem mx_in {F : Nat → Bool} {k o f : Nat} (hm : mx F k (dn k f)) (ho : o ≤ k) (hf : f % 2 ^ o = 0) : dn k f ≤ f ∧ f + 2 ^ o ≤ dn k f + 2 ^ k := by
  have hp := p2 o
  have q1 := dn_le k f
  have q2 := dn_lt k f
  rcases dy ho hf hm.2.1 with h' | h'
  · exact h'
  · omega

/-- How many are free. -/
def cnt (F : Nat → Bool) (n : Nat) : Nat := (List.range n).countP F
theorem cnt_le (F : Nat → Bool) (n : Nat) : cnt F n ≤ n := by unfold cnt; have := List.countP_le_length (p := F) (l := List.range n); simpa using this
theorem cnt_split (F : Nat → Bool) (n f P : Nat) (h : f + P ≤ n) : cnt F n = cnt F f + (List.range' f P).countP F + (List.range' (f + P) (n - f - P)).countP F := by
  unfold cnt
  have e : List.range n = List.range f ++ (List.range' f P ++ List.range' (f + P) (n - f - P)) := by
    rw [List.range_eq_range', List.range_eq_range', List.range'_append_1]
    have := List.range'_append_1 (s := 0) (m := f) (n := P + (n - f - P))
    rw [Nat.zero_add, show f + (P + (n - f - P)) = n by omega] at this
    exact this.symm
  rw [e, List.countP_append, List.countP_append, Nat.add_assoc]
theorem countP_same {F F' : Nat → Bool} {l : List Nat} (h : ∀ i, i ∈ l → F i = F' i) : l.countP F = l.countP F' := List.countP_congr fun i hi => by rw [h i hi]
theorem cnt_sub {F : Nat → Bool} {n f o : Nat} (h : f + 2 ^ o ≤ n) (hb : blk F o f) : cnt F n = cnt (subB F o f) n + 2 ^ o := by
  rw [cnt_split F n f (2 ^ o) h, cnt_split (subB F o f) n f (2 ^ o) h]
  have h1 : cnt F f = cnt (subB F o f) f := by
    unfold cnt
    refine countP_same fun i hi => ?_
    rw [List.mem_range] at hi
    rw [Bool.eq_iff_iff, subB_iff]
    exact ⟨fun h => ⟨h, by omega⟩, fun h => h.1⟩
  have h2 : (List.range' f (2 ^ o)).countP F = 2 ^ o := by
    have : (List.range' f (2 ^ o)).countP F = (List.range' f (2 ^ o)).length := by
      rw [List.countP_eq_length]
      intro i hi
      rw [List.mem_range'_1] at hi
      exact hb i hi.1 hi.2
    rw [this, List.length_range']
  have h3 : (List.range' f (2 ^ o)).countP (subB F o f) = 0 := by
    rw [List.countP_eq_zero]
    intro i hi
    rw [List.mem_range'_1] at hi
    rw [subB_iff]
    exact fun h => h.2 hi
  have h4 : (List.range' (f + 2 ^ o) (n - f - 2 ^ o)).countP F = (List.range' (f + 2 ^ o) (n - f - 2 ^ o)).countP (subB F o f) := by
    refine countP_same fun i hi => ?_
    rw [List.mem_range'_1] at hi
    rw [Bool.eq_iff_iff, subB_iff]
    exact ⟨fun h => ⟨h, by omega⟩, fun h => h.1⟩
  rw [h1, h2, h3, h4]; omega
theorem sub_add {F : Nat → Bool} {o f : Nat} (hn : ∀ i, f ≤ i → i < f + 2 ^ o → F i = false) : subB (addB F o f) o f = F := by
  funext i
  rw [Bool.eq_iff_iff, subB_iff, addB_iff]
  constructor
  · rintro ⟨h1 | h1, h2⟩
    · exact h1
    · exact absurd h1 h2
  · intro h
    exact ⟨.inl h, fun ⟨h1, h2⟩ => by rw [hn i h1 h2] at h; cases h⟩
theorem cnt_add {F : Nat → Bool} {n f o : Nat} (h : f + 2 ^ o ≤ n) (hn : ∀ i, f ≤ i → i < f + 2 ^ o → F i = false) : cnt (addB F o f) n = cnt F n + 2 ^ o := by
  have h1 := cnt_sub (F := addB F o f) h (fun i h1 h2 => by rw [addB_iff]; exact .inr ⟨h1, h2⟩)
  rw [sub_add hn] at h1
  exact h1

/-- The object at large: F are free. -/
def BF (w : World) (B p n : Nat) (F : Nat → Bool) (G : Nat → Prop) : Prop := ∃ S, BS w B p n S (cnt F n : Nat) G ∧ Rp S F ∧ (∀ i, F i = true → i < n)
theorem BF.keep0 {w w' : World} {B p n : Nat} {F : Nat → Bool} {G : Nat → Prop} (h : BF w B p n F G) (k : Keep (fun _ => False) w w') : BF w' B p n F G := by
  obtain ⟨S, h1, h2⟩ := h
  exact ⟨S, h1.keep0 k, h2⟩
theorem BF.mono {w : World} {B p n : Nat} {F : Nat → Bool} {G G' : Nat → Prop} (h : BF w B p n F G) (hG : ∀ x, G x → G' x) : BF w B p n F G' := by
  obtain ⟨S, h1, h2⟩ := h
  exact ⟨S, h1.mono hG, h2⟩
theorem BF.keep {w w' : World} {B p n : Nat} {F : Nat → Bool} {G T : Nat → Prop} (h : BF w B p n F G) (k : Keep T w w') (hp : ¬ T p) (hG : ∀ x, G x → ¬ T x) : BF w' B p n F G := by
  obtain ⟨S, h1, h2⟩ := h
  exact ⟨S, h1.keep k hp hG, h2⟩
theorem BF.hn {w : World} {B p n : Nat} {F : Nat → Bool} {G : Nat → Prop} (h : BF w B p n F G) : n ≤ 1024 := by
  obtain ⟨S, ⟨V, h1, _⟩, _⟩ := h
  exact h1.hn
theorem BF.ran {w : World} {B p n : Nat} {F : Nat → Bool} {G : Nat → Prop} (h : BF w B p n F G) : ∀ i, F i = true → i < n := by
  obtain ⟨S, _, _, h1⟩ := h
  exact h1
/-- What a call leaves that took or gave. -/
def TookC (w w' : World) (B p n : Nat) (F' : Nat → Bool) (G : Nat → Prop) : Prop := BF w' B p n F' (fun x => G x ∨ w.heap.size ≤ x) ∧ Keep (fun z => z = p ∨ G z) w w'

theorem took_on {w W w' : World} {B p n : Nat} {F' : Nat → Bool} {G : Nat → Prop} (h : TookC W w' B p n F' G) (K : Keep (fun _ => False) w W) : TookC w w' B p n F' G :=
  ⟨h.1.mono fun x hx => hx.imp id (fun h => Nat.le_trans K.size h), (K.mono (fun _ _ h => h.elim)).trans h.2⟩
theorem carve_bf {w : World} {B p n K b o f : Nat} {F : Nat → Bool} {G : Nat → Prop} (hB : B ≤ w.heap.size) (h : BF w B p n F G) (hm : mx F K b) (ho : o ≤ K) (hfo : f % 2 ^ o = 0) (hf1 : b ≤ f) (hf2 : f + 2 ^ o ≤ b + 2 ^ K) (hG : ∀ x, G x → x < w.heap.size) :
    Calls Tryz.prog 88 #[.pointer (some ⟨p, 0, none⟩), .agg #[.int .i64 (b : Int), .int .i64 (K : Int)], .int .i64 (f : Int), .int .i64 (o : Int)] w fun e w' => e = .returned (.tuple #[]) ∧ TookC w w' B p n (subB F o f) G := by
  have hn := h.hn
  obtain ⟨S, h1, h2, h3⟩ := h
  have hc := cnt_le F n
  have hpo := p2 o
  have hlast : f + 2 ^ o ≤ n := by
    have := h3 (f + 2 ^ o - 1) (hm.2.2.1 _ (by omega) (by omega))
    omega
  refine (carve_any hB h1 h2 hm ho hfo hf1 hf2 h3 hG (by omega)).mono ?_
  rintro e w' ⟨rfl, S', g1, g2, g3⟩
  have hcs := cnt_sub hlast (blk_in hm.2.2.1 hf1 hf2)
  refine ⟨rfl, ⟨S', ?_, g2, fun i hi => h3 i ((subB_iff F o f i).mp hi).1⟩, g3⟩
  rw [show ((cnt (subB F o f) n : Nat) : Int) = (cnt F n : Nat) - (2 ^ o : Nat) by omega]
  exact g1

/- Part J: Buddy: TakeAt, Take, Greatest. -/
theorem cell2b {w : World} {b e : Nat} {x y : Value} {z : Nat × Nat} (h : w.heap[b]? = some (.cells #[x, y] e z)) : w.cell? ⟨b, 0, none⟩ = some x ∧ w.cell? ⟨b, 1, none⟩ = some y := by simp [cell_block h]

set_option maxHeartbeats 1000000 in
theorem takeAt_bad {w : World} {B p n : Nat} {F : Nat → Bool} {G : Nat → Prop} (f o : Int) (h : BF w B p n F G) (hw : wrE n f o ≠ 0) :
    Calls Tryz.prog 69 #[.pointer (some ⟨p, 0, none⟩), .int .i64 f, .int .i64 o] w fun e w' => e = .returned (.int .i64 (wrE n f o)) ∧ Keep (fun _ => False) w w' := by
  obtain ⟨S, h1, h2, h3⟩ := h
  have HW := Lib.hid (wrong_any f o h1)
  obtain ⟨z, hz⟩ : ∃ z, wrE n f o = z := ⟨_, rfl⟩
  rw [hz] at hw HW ⊢
  have t1 : (z != 0) = true := by rw [bne_iff_ne]; exact hw
  clear hz hw
  go_enter Tryz.func69, Tryz.ntmps69
  go_wp2_with (go_at_call 87; refine HW.out.mono ?_; rintro e w1 ⟨rfl, hk1⟩)
  go_ret
  exact ⟨rfl, hk1⟩

set_option maxRecDepth 100000 in
set_option maxHeartbeats 2000000 in
theorem takeAt_busy {w : World} {B p n f o : Nat} {F : Nat → Bool} {G : Nat → Prop} (h : BF w B p n F G) (hw : wrE n f o = 0) (ho : o ≤ 8) (hfo : f % 2 ^ o = 0) (hfn : f + 2 ^ o ≤ n) (hb : ¬ blk F o f) :
    Calls Tryz.prog 69 #[.pointer (some ⟨p, 0, none⟩), .int .i64 (f : Int), .int .i64 (o : Int)] w fun e w' => e = .returned (.int .i64 12) ∧ Keep (fun _ => False) w w' := by
  have hpo := p2 o
  obtain ⟨S, h1, h2, h3⟩ := h
  have HW := Lib.hid (wrong_any f o h1)
  rw [hw] at HW
  cases hF : F f with
  | false =>
    have HH := Lib.hid (fun W (K : Keep (fun _ => False) w W) => holder_no (h1.keep0 K) h2 (by omega) hF)
    clear h1 h2 h3 hw hb hF hfo hfn hpo
    go_enter Tryz.func69, Tryz.ntmps69
    go_wp2_with (first | (go_at_call 87; refine HW.out.mono ?_; rintro e w1 ⟨rfl, hk1⟩; have HK1 := Lib.hid hk1; clear hk1) | (go_at_call 84; refine (HH.out _ HK1.out).mono ?_; rintro e w2 ⟨rfl, hk2⟩; have HK2 := Lib.hid (HK1.out.trans hk2); clear hk2))
    go_ret
    exact ⟨rfl, (by (repeat (first | exact HK2.out | exact Keep.refl _ _ | refine Keep.drew ?_ | refine Keep.drewN ?_ _ | refine Keep.alloc ?_ _ | refine Keep.setNew ?_ (by omega) _)); done)⟩
  | true =>
    have HH : Hid (∀ W, Keep (fun _ => False) w W → Calls Tryz.prog 84 #[.pointer (some ⟨p, 0, none⟩), .int .i64 (f : Int)] W fun e w' => ∃ d k : Nat, (k : Int) < (o : Int) ∧ e = .returned (.tuple #[.agg #[.int .i64 (d : Int), .int .i64 (k : Int)], .bool true]) ∧ Keep (fun _ => False) W w') := fun W K => by
      refine (holder_yes (h1.keep0 K) h2 (by omega) hF).mono ?_
      rintro e w' ⟨k, hm, rfl, hk⟩
      refine ⟨_, k, ?_, rfl, hk⟩
      have : ¬ o ≤ k := fun h => hb ((mx_over hm ho hfo).mpr h)
      omega
    clear h1 h2 h3 hw hb hF hfo hfn hpo
    go_enter Tryz.func69, Tryz.ntmps69
    go_wp2_with (first | (go_at_call 87; refine HW.out.mono ?_; rintro e w1 ⟨rfl, hk1⟩; have HK1 := Lib.hid hk1; clear hk1) | (go_at_call 84; refine (HH.out _ HK1.out).mono ?_; rintro e w2 ⟨d, k, hko, rfl, hk2⟩; have HK2 := Lib.hid (HK1.out.trans hk2); clear hk2; obtain ⟨q0, q1⟩ := cell2b (heap_alloc_new w2 (.cells #[.int .i64 (d : Int), .int .i64 (k : Int)] 96))))
    go_ret
    exact ⟨rfl, (by (repeat (first | exact HK2.out | exact Keep.refl _ _ | refine Keep.drew ?_ | refine Keep.drewN ?_ _ | refine Keep.alloc ?_ _ | refine Keep.setNew ?_ (by omega) _)); done)⟩

set_option maxRecDepth 100000 in
set_option maxHeartbeats 2000000 in
theorem takeAt_ok {w : World} {B p n f o : Nat} {F : Nat → Bool} {G : Nat → Prop} (hB : B ≤ w.heap.size) (h : BF w B p n F G) (hG : ∀ x, G x → x < w.heap.size) (hw : wrE n f o = 0) (ho : o ≤ 8) (hfo : f % 2 ^ o = 0) (hfn : f + 2 ^ o ≤ n) (hb : blk F o f) :
    Calls Tryz.prog 69 #[.pointer (some ⟨p, 0, none⟩), .int .i64 (f : Int), .int .i64 (o : Int)] w fun e w' => e = .returned (.int .i64 0) ∧ TookC w w' B p n (subB F o f) G := by
  have hpo := p2 o
  have HBF := Lib.hid h
  have HG := Lib.hid hG
  obtain ⟨S, h1, h2, h3⟩ := h
  have HW := Lib.hid (wrong_any f o h1)
  rw [hw] at HW
  have HH : Hid (∀ W, Keep (fun _ => False) w W → Calls Tryz.prog 84 #[.pointer (some ⟨p, 0, none⟩), .int .i64 (f : Int)] W fun e w' => ∃ d k : Nat, ¬ ((k : Int) < (o : Int)) ∧ (∀ W', Keep (fun _ => False) w W' → Calls Tryz.prog 88 #[.pointer (some ⟨p, 0, none⟩), .agg #[.int .i64 (d : Int), .int .i64 (k : Int)], .int .i64 (f : Int), .int .i64 (o : Int)] W' fun e w' => e = .returned (.tuple #[]) ∧ TookC W' w' B p n (subB F o f) G) ∧ e = .returned (.tuple #[.agg #[.int .i64 (d : Int), .int .i64 (k : Int)], .bool true]) ∧ Keep (fun _ => False) W w') := fun W K => by
    refine (holder_yes (h1.keep0 K) h2 (by omega) (hb f (Nat.le_refl _) (by omega))).mono ?_
    rintro e w' ⟨k, hm, rfl, hk⟩
    have hok := (mx_over hm ho hfo).mp hb
    obtain ⟨r1, r2⟩ := mx_in hm hok hfo
    exact ⟨_, k, by omega, fun W' K' => carve_bf (Nat.le_trans hB K'.size) (HBF.out.keep0 K') hm hok hfo r1 r2 (fun x hx => Nat.lt_of_lt_of_le (HG.out x hx) K'.size), rfl, hk⟩
  clear h1 h2 h3 hw hb hfo hfn hpo hG
  go_enter Tryz.func69, Tryz.ntmps69
  go_wp2_with (first | (go_at_call 87; refine HW.out.mono ?_; rintro e w1 ⟨rfl, hk1⟩; have HK1 := Lib.hid hk1; clear hk1) | (go_at_call 84; refine (HH.out _ HK1.out).mono ?_; rintro e w2 ⟨d, k, hko, hcv, rfl, hk2⟩; have HCV := Lib.hid hcv; have HK2 := Lib.hid (HK1.out.trans hk2); clear hk2 hcv; obtain ⟨q0, q1⟩ := cell2b (heap_alloc_new w2 (.cells #[.int .i64 (d : Int), .int .i64 (k : Int)] 96))) | (go_at_call 88; refine (HCV.out _ (by (repeat (first | exact HK2.out | exact Keep.refl _ _ | refine Keep.drew ?_ | refine Keep.drewN ?_ _ | refine Keep.alloc ?_ _ | refine Keep.setNew ?_ (by omega) _)); done)).mono ?_; rintro e w3 ⟨rfl, ht3⟩; have HT3 := Lib.hid ht3; clear ht3))
  go_ret
  exact ⟨rfl, took_on HT3.out (by (repeat (first | exact HK2.out | exact Keep.refl _ _ | refine Keep.drew ?_ | refine Keep.drewN ?_ _ | refine Keep.alloc ?_ _ | refine Keep.setNew ?_ (by omega) _)); done)⟩

theorem li_mem (S : Nat → Nat → Bool) (n k : Nat) (x : Int) : x ∈ li S n k ↔ ∃ a : Nat, a < n ∧ S k a = true ∧ x = a := by
  unfold li
  rw [List.mem_map]
  constructor
  · rintro ⟨a, ha, rfl⟩
    rw [ls_mem] at ha
    exact ⟨a, ha.1, ha.2, rfl⟩
  · rintro ⟨a, h1, h2, rfl⟩
    exact ⟨a, (ls_mem S n k a).mpr ⟨h1, h2⟩, rfl⟩
theorem mx_lt {F : Nat → Bool} {n k a : Nat} (hF : ∀ i, F i = true → i < n) (h : mx F k a) : a < n := hF a (h.2.2.1 a (Nat.le_refl _) (by have := p2 k; omega))
theorem li_nil {S : Nat → Nat → Bool} {F : Nat → Bool} {n k : Nat} (hR : Rp S F) (hF : ∀ i, F i = true → i < n) (hk : k ≤ 8) (h : li S n k = []) (b : Nat) : ¬ mx F k b := fun hm => by
  have : (b : Int) ∈ li S n k := (li_mem S n k b).mpr ⟨b, mx_lt hF hm, (hR k b hk).mpr hm, rfl⟩
  rw [h] at this; cases this
theorem li_head {S : Nat → Nat → Bool} {F : Nat → Bool} {n k : Nat} (hR : Rp S F) (hF : ∀ i, F i = true → i < n) (hk : k ≤ 8) {x : Int} {T : List Int} (h : li S n k = x :: T) : ∃ a : Nat, x = a ∧ mx F k a ∧ ∀ b, b < a → ¬ mx F k b := by
  obtain ⟨a, h1, h2, rfl⟩ := (li_mem S n k x).mp (by rw [h]; exact List.mem_cons_self ..)
  refine ⟨a, rfl, (hR k a hk).mp h2, fun b hb hm => ?_⟩
  have hs := li_sorted S n k
  have hm2 : (b : Int) ∈ li S n k := (li_mem S n k b).mpr ⟨b, mx_lt hF hm, (hR k b hk).mpr hm, rfl⟩
  rw [h] at hs hm2
  rcases List.mem_cons.mp hm2 with e | hm2
  · omega
  · have := (List.pairwise_cons.mp hs).1 _ hm2
    omega

/-- What Take answers. -/
def TakeB (w : World) (B p n o : Nat) (F : Nat → Bool) (G : Nat → Prop) (e : Ending) (w' : World) : Prop :=
  (∃ k a, o ≤ k ∧ mx F k a ∧ (∀ j b, o ≤ j → j < k → ¬ mx F j b) ∧ (∀ b, b < a → ¬ mx F k b) ∧ e = .returned (.tuple #[.int .i64 (a : Nat), .int .i64 0]) ∧ TookC w w' B p n (subB F o a) G) ∨
  ((∀ j b, o ≤ j → ¬ mx F j b) ∧ e = .returned (.tuple #[.int .i64 0, .int .i64 8]) ∧ Keep (fun _ => False) w w')

set_option maxHeartbeats 400000 in
theorem takeAt_nil (f o : Int) (w : World) : Calls Tryz.prog 69 #[.pointer none, .int .i64 f, .int .i64 o] w fun e w' => e = .returned (.int .i64 1) ∧ Keep (fun _ => False) w w' := by
  go_enter Tryz.func69, Tryz.ntmps69
  go_wp2_with (go_at_call 87; refine (wrong_nil f o _).mono ?_; rintro e w1 ⟨rfl, hk1⟩)
  go_ret
  exact ⟨rfl, hk1⟩

/- Part K: Buddy: Greatest, Give. -/
def GreatC (F : Nat → Bool) (w : World) (e : Ending) (w' : World) : Prop :=
  ((∃ k b, mx F k b ∧ (∀ j b, k < j → ¬ mx F j b) ∧ e = .returned (.int .i64 (k : Nat))) ∨ ((∀ j b, ¬ mx F j b) ∧ e = .returned (.int .i64 (-1)))) ∧ Keep (fun _ => False) w w'
set_option maxHeartbeats 400000 in
theorem give_nil (f o : Int) (w : World) : Calls Tryz.prog 81 #[.pointer none, .int .i64 f, .int .i64 o] w fun e w' => e = .returned (.int .i64 1) ∧ Keep (fun _ => False) w w' := by
  go_enter Tryz.func81, Tryz.ntmps81
  go_wp2_with (go_at_call 87; refine (wrong_nil f o _).mono ?_; rintro e w1 ⟨rfl, hk1⟩)
  go_ret
  exact ⟨rfl, hk1⟩
set_option maxHeartbeats 1000000 in
theorem give_bad {w : World} {B p n : Nat} {F : Nat → Bool} {G : Nat → Prop} (f o : Int) (h : BF w B p n F G) (hw : wrE n f o ≠ 0) :
    Calls Tryz.prog 81 #[.pointer (some ⟨p, 0, none⟩), .int .i64 f, .int .i64 o] w fun e w' => e = .returned (.int .i64 (wrE n f o)) ∧ Keep (fun _ => False) w w' := by
  obtain ⟨S, h1, h2, h3⟩ := h
  have HW := Lib.hid (wrong_any f o h1)
  obtain ⟨z, hz⟩ : ∃ z, wrE n f o = z := ⟨_, rfl⟩
  rw [hz] at hw HW ⊢
  have t1 : (z != 0) = true := by rw [bne_iff_ne]; exact hw
  clear hz hw
  go_enter Tryz.func81, Tryz.ntmps81
  go_wp2_with (go_at_call 87; refine HW.out.mono ?_; rintro e w1 ⟨rfl, hk1⟩)
  go_ret
  exact ⟨rfl, hk1⟩

/-- The other half. -/
def oth (k a : Nat) : Nat := if a / 2 ^ k % 2 = 0 then a + 2 ^ k else a - 2 ^ k
theorem xor_pow : ∀ o : Fin 9, ∀ f : Fin 1024, f.val % 2 ^ o.val = 0 → bits .xor .i64 (f.val : Int) ((2 ^ o.val : Nat) : Int) = ((oth o.val f.val : Nat) : Int) := by decide +kernel
theorem oth_spec {k a : Nat} (ha : a % 2 ^ k = 0) : (oth k a = a + 2 ^ k ∧ dn (k + 1) a = a) ∨ (oth k a + 2 ^ k = a ∧ dn (k + 1) a = oth k a) := by
  have h1 := Nat.div_add_mod a (2 ^ k)
  rw [ha, Nat.add_zero] at h1
  unfold oth dn
  rw [Nat.pow_succ, ← Nat.div_div_eq_div_mul]
  generalize a / 2 ^ k = q at h1 ⊢
  generalize 2 ^ k = P at h1 ⊢
  have h3 := Nat.div_add_mod q 2
  have h4 := Nat.mod_lt q (show 0 < 2 by decide)
  generalize q / 2 = m at h3 ⊢
  generalize q % 2 = s at h3 h4 ⊢
  have e1 : m * (P * 2) = 2 * m * P := by rw [Nat.mul_comm P 2, ← Nat.mul_assoc, Nat.mul_comm m 2]
  have e2 : P * q = 2 * m * P + s * P := by rw [Nat.mul_comm, ← h3, Nat.add_mul]
  rw [e2] at h1
  rw [e1]
  clear e1 e2 h3
  generalize 2 * m * P = X at *
  have hs : s = 0 ∨ s = 1 := by omega
  rcases hs with rfl | rfl
  · rw [Nat.zero_mul] at h1; left; simp; omega
  · rw [Nat.one_mul] at h1; right; simp; omega
/-- One turn of Give: both halves are there. -/
theorem rp_join {S : Nat → Nat → Bool} {F : Nat → Bool} {k a : Nat} (h : Rp S (subB F k a)) (hb : blk F k a) (ha : a % 2 ^ k = 0) (hk : k < 8) (hs : S k (oth k a) = true) :
    Rp (dropS S k (oth k a)) (subB F (k + 1) (min a (oth k a))) ∧ blk F (k + 1) (min a (oth k a)) ∧ min a (oth k a) % 2 ^ (k + 1) = 0 := by
  have hm := (h k (oth k a) (by omega)).mp hs
  have hr := rp_drop h hm
  have hps := p2s k
  have hp := p2 k
  have hmd := dn_mod (k + 1) a
  have hob : ∀ i, oth k a ≤ i → i < oth k a + 2 ^ k → F i = true := fun i h1 h2 => ((subB_iff F k a i).mp (hm.2.2.1 i h1 h2)).1
  rcases oth_spec ha with ⟨e1, e2⟩ | ⟨e1, e2⟩
  · rw [e2] at hmd
    rw [show min a (oth k a) = a by omega]
    refine ⟨?_, fun i h1 h2 => ?_, hmd⟩
    · have e : subB (subB F k a) k (oth k a) = subB F (k + 1) a := by
        funext i
        rw [Bool.eq_iff_iff, subB_iff, subB_iff, subB_iff]
        constructor
        · rintro ⟨⟨h1, h2⟩, h3⟩; exact ⟨h1, by omega⟩
        · rintro ⟨h1, h2⟩; exact ⟨⟨h1, by omega⟩, by omega⟩
      rw [← e]; exact hr
    · by_cases hi : i < a + 2 ^ k
      · exact hb i h1 hi
      · exact hob i (by omega) (by omega)
  · rw [e2] at hmd
    rw [show min a (oth k a) = oth k a by omega]
    refine ⟨?_, fun i h1 h2 => ?_, hmd⟩
    · have e : subB (subB F k a) k (oth k a) = subB F (k + 1) (oth k a) := by
        funext i
        rw [Bool.eq_iff_iff, subB_iff, subB_iff, subB_iff]
        constructor
        · rintro ⟨⟨h1, h2⟩, h3⟩; exact ⟨h1, by omega⟩
        · rintro ⟨h1, h2⟩; exact ⟨⟨h1, by omega⟩, by omega⟩
      rw [← e]; exact hr
    · by_cases hi : i < a
      · exact hob i h1 (by omega)
      · exact hb i (by omega) (by omega)
/-- The last one: the other half is not there, or the block is the greatest. -/
theorem rp_last {S : Nat → Nat → Bool} {F : Nat → Bool} {k a : Nat} (h : Rp S (subB F k a)) (hb : blk F k a) (ha : a % 2 ^ k = 0) (hk : k ≤ 8) (hs : k < 8 → S k (oth k a) = false) :
    Rp (putS S k a) F ∧ S k a = false := by
  have hps := p2s k
  have hp := p2 k
  have hin : ∀ i, a ≤ i → i < a + 2 ^ k → subB F k a i = false := fun i h1 h2 => by
    rw [← Bool.not_eq_true, subB_iff]
    exact fun h3 => h3.2 ⟨h1, h2⟩
  have hno : S k a = false := by
    rw [← Bool.not_eq_true, h k a hk]
    intro hx
    have h1 := hx.2.2.1 a (Nat.le_refl _) (by omega)
    rw [hin a (Nat.le_refl _) (by omega)] at h1
    cases h1
  have hr := rp_put h hk ha hin (fun hk8 => by
    have h1 := hs hk8
    have hom : oth k a % 2 ^ k = 0 := by
      rcases oth_spec ha with ⟨e1, e2⟩ | ⟨e1, e2⟩
      · rw [e1, Nat.add_mod_right]; exact ha
      · have hm := mod_of_le (Nat.le_succ k) (dn_mod (k + 1) a)
        rw [e2] at hm; exact hm
    have hdo : dn (k + 1) (oth k a) = dn (k + 1) a := by
      have q1 := dn_le (k + 1) (oth k a)
      have q2 := dn_lt (k + 1) (oth k a)
      have q3 := dn_le (k + 1) a
      have q4 := dn_lt (k + 1) a
      rcases oth_spec ha with ⟨e1, e2⟩ | ⟨e1, e2⟩ <;> rcases dy (Nat.le_refl (k + 1)) (dn_mod (k + 1) (oth k a)) (dn_mod (k + 1) a) with h' | h' <;> omega
    have h2 : ¬ mx (subB F k a) k (oth k a) := fun hm => by
      rw [(h k (oth k a) hk).mpr hm] at h1; cases h1
    have h3 : ¬ blk (subB F k a) k (oth k a) := fun hbl => h2 ⟨hk, hom, hbl, fun ⟨_, h4⟩ => by
      rw [hdo] at h4
      have q3 := dn_le (k + 1) a
      have q4 := dn_lt (k + 1) a
      have := h4 a q3 q4
      rw [hin a (Nat.le_refl _) (by omega)] at this; cases this⟩
    unfold blk at h3
    simp only [Classical.not_forall] at h3
    obtain ⟨i, h5, h6, h7⟩ := h3
    refine ⟨i, ?_, ?_, ?_, by simpa using h7⟩
    · rcases oth_spec ha with ⟨e1, e2⟩ | ⟨e1, e2⟩ <;> omega
    · rcases oth_spec ha with ⟨e1, e2⟩ | ⟨e1, e2⟩ <;> omega
    · rcases oth_spec ha with ⟨e1, e2⟩ | ⟨e1, e2⟩ <;> omega)
  rw [add_sub hb] at hr
  exact ⟨hr, hno⟩

/- Part L: Buddy: Give. -/
theorem fr_add (c P : Nat) (h : c ≤ 1024) (h1 : P ≤ 256) : IntKind.i64.wrap ((c : Int) + (P : Int)) = ((c + P : Nat) : Int) ∧ -100000 ≤ ((c + P : Nat) : Int) ∧ ((c + P : Nat) : Int) ≤ 100000 := ⟨by rw [← Int.natCast_add]; exact IntWalk.i64_in _ (by omega), by omega, by omega⟩
theorem wsum (a b : Nat) (h : a ≤ 2000) (h1 : b ≤ 2000) : IntKind.i64.wrap ((a : Int) + (b : Int)) = ((a + b : Nat) : Int) := by rw [← Int.natCast_add]; exact IntWalk.i64_in _ (by omega)
theorem min_nat (a b : Nat) : (if (b : Int) < (a : Int) then (b : Int) else (a : Int)) = ((min a b : Nat) : Int) := by split <;> omega

set_option maxRecDepth 100000 in
set_option maxHeartbeats 2000000 in
theorem give_busy {w : World} {B p n f o : Nat} {F : Nat → Bool} {G : Nat → Prop} (h : BF w B p n F G) (hw : wrE n f o = 0) (ho : o ≤ 8) (hfn : f + 2 ^ o ≤ n) (hb : ¬ ∀ i, f ≤ i → i < f + 2 ^ o → F i = false) :
    Calls Tryz.prog 81 #[.pointer (some ⟨p, 0, none⟩), .int .i64 (f : Int), .int .i64 (o : Int)] w fun e w' => e = .returned (.int .i64 12) ∧ Keep (fun _ => False) w w' := by
  have hn := h.hn
  have HBF := Lib.hid h
  obtain ⟨S, h1, h2, h3⟩ := h
  have HW := Lib.hid (wrong_any f o h1)
  rw [hw] at HW
  have HH := Lib.hid (fun W (K : Keep (fun _ => False) w W) (i : Nat) (hi : i < n) => has_in (h1.keep0 K) h2 hi)
  have hp := pw o ho
  obtain ⟨e1, e2⟩ := pw_w o ho
  have HNB := Lib.hid hb
  obtain ⟨P, hP⟩ : ∃ P, 2 ^ o = P := ⟨_, rfl⟩
  rw [hP] at hp e1 e2 hfn HNB
  have oz : (0 : Int) ≤ (o : Int) := Int.natCast_nonneg o
  clear h1 h2 h3 hw hb hP
  go_enter Tryz.func81, Tryz.ntmps81
  go_wp2_with (go_at_call 87; refine HW.out.mono ?_; rintro e w1 ⟨rfl, hk1⟩; have HK1 := Lib.hid hk1; clear hk1)
  go_loopw [21] (fun i wr => ∃ k : Nat, k ≤ P ∧ i = .int .i64 k ∧ (∀ j, f ≤ j → j < f + k → F j = false) ∧ Keep (fun _ => False) w wr) (fun i _ => P - (intOf i).toNat)
  case atStart => exact ⟨0, by omega, rfl, fun j h1 h2 => by omega, HK1.out⟩
  case round =>
    obtain ⟨k, hk, rfl, hno, hkeep⟩ := hrel
    have HNO := Lib.hid hno
    have HK := Lib.hid hkeep
    clear hno hkeep
    by_cases hlt : k < P
    · have a1 := wsum f k (by omega) (by omega)
      have HC := Lib.hid (HH.out wr HK.out (f + k) (by omega))
      have hkP : (k : Int) < (P : Int) := by omega
      obtain ⟨g, hg⟩ : ∃ g, f + k = g := ⟨_, rfl⟩
      rw [hg] at a1 HC
      have HGG := Lib.hid hg
      clear hg
      cases hF : F g with
      | true =>
        rw [hF] at HC
        clear hF
        go_wp2_with (go_at_call 64; refine HC.out.mono ?_; rintro e w2 ⟨rfl, hk2⟩; have HK2 := Lib.hid (HK.out.trans hk2); clear hk2)
        go_ret
        exact ⟨rfl, HK2.out⟩
      | false =>
        have HN2 : Hid (∀ j, f ≤ j → j < f + (k + 1) → F j = false) := fun j h1 h2 => by
          by_cases e : j = g
          · rw [e]; exact hF
          · exact HNO.out j h1 (by have := HGG.out; omega)
        rw [hF] at HC
        clear hF
        go_wp2_with (go_at_call 64; refine HC.out.mono ?_; rintro e w2 ⟨rfl, hk2⟩; have HK2 := Lib.hid (HK.out.trans hk2); clear hk2)
        go_roundw
        case rel => exact ⟨k + 1, by omega, by go_num, HN2.out, HK2.out⟩
        case measure => simp [intOf]; omega
    · obtain rfl : k = P := by omega
      exact absurd HNO.out HNB.out

set_option maxRecDepth 100000 in
set_option maxHeartbeats 8000000 in
theorem give_ok {w : World} {B p n f o : Nat} {F : Nat → Bool} {G : Nat → Prop} (hB : B ≤ w.heap.size) (h : BF w B p n F G) (hG : ∀ x, G x → x < w.heap.size) (hw : wrE n f o = 0) (ho : o ≤ 8) (hfo : f % 2 ^ o = 0) (hfn : f + 2 ^ o ≤ n) (hb : ∀ i, f ≤ i → i < f + 2 ^ o → F i = false) :
    Calls Tryz.prog 81 #[.pointer (some ⟨p, 0, none⟩), .int .i64 (f : Int), .int .i64 (o : Int)] w fun e w' => e = .returned (.int .i64 0) ∧ TookC w w' B p n (addB F o f) G := by
  have hn := h.hn
  have HCA := Lib.hid (cnt_add hfn hb)
  have hcl := cnt_le F n
  have HBF := Lib.hid h
  have HG := Lib.hid hG
  obtain ⟨S, h1, h2, h3⟩ := h
  have hpl : p < w.heap.size := by obtain ⟨V, h4, _⟩ := h1; exact block_lt h4.hp
  have HS1 := Lib.hid h1
  have HW := Lib.hid (wrong_any f o h1)
  rw [hw] at HW
  have HH := Lib.hid (fun W (K : Keep (fun _ => False) w W) (i : Nat) (hi : i < n) => has_in (h1.keep0 K) h2 hi)
  have HSF : Hid (Rp S (subB (addB F o f) o f)) := by unfold Hid; rw [sub_add hb]; exact h2
  have HBL : Hid (blk (addB F o f) o f) := fun i i1 i2 => by rw [addB_iff]; exact .inr ⟨i1, i2⟩
  have HFn : Hid (∀ i, addB F o f i = true → i < n) := fun i hi => by
    rw [addB_iff] at hi
    rcases hi with hi | hi
    · exact h3 i hi
    · omega
  obtain ⟨F', hF'⟩ : ∃ F', addB F o f = F' := ⟨_, rfl⟩
  rw [hF'] at HSF HBL HFn HCA ⊢
  have hp := pw o ho
  obtain ⟨e1, e2⟩ := pw_w o ho
  have HNB := Lib.hid hb
  have HFO := Lib.hid hfo
  obtain ⟨P, hP⟩ : ∃ P, 2 ^ o = P := ⟨_, rfl⟩
  rw [hP] at hp e1 e2 hfn HNB HCA
  obtain ⟨c, hc⟩ : ∃ c, cnt F n = c := ⟨_, rfl⟩
  rw [hc] at HCA HS1 hcl
  have oz : (0 : Int) ≤ (o : Int) := Int.natCast_nonneg o
  obtain ⟨a9, hfr⟩ := fr_add c P (by omega) hp.2
  have HFR := Lib.hid hfr
  clear h1 h2 h3 hw hb hP hG hfo hF' hfr hc
  go_enter Tryz.func81, Tryz.ntmps81
  go_wp2_with (go_at_call 87; refine HW.out.mono ?_; rintro e w1 ⟨rfl, hk1⟩; have HK1 := Lib.hid hk1; clear hk1)
  go_loopw [21] (fun i wr => ∃ k : Nat, k ≤ P ∧ i = .int .i64 k ∧ Keep (fun _ => False) w wr) (fun i _ => P - (intOf i).toNat)
  case atStart => exact ⟨0, by omega, rfl, HK1.out⟩
  case round =>
    obtain ⟨k, hk, rfl, hkeep⟩ := hrel
    have HK := Lib.hid hkeep
    clear hkeep
    by_cases hlt : k < P
    · have a1 := wsum f k (by omega) (by omega)
      have HC := Lib.hid (HH.out wr HK.out (f + k) (by omega))
      have hFg : F (f + k) = false := HNB.out _ (by omega) (by omega)
      rw [hFg] at HC
      have hkP : (k : Int) < (P : Int) := by omega
      obtain ⟨g, hg⟩ : ∃ g, f + k = g := ⟨_, rfl⟩
      rw [hg] at a1 HC
      clear hg hFg
      go_wp2_with (go_at_call 64; refine HC.out.mono ?_; rintro e w2 ⟨rfl, hk2⟩; have HK2 := Lib.hid (HK.out.trans hk2); clear hk2)
      go_roundw
      case rel => exact ⟨k + 1, by omega, by go_num, HK2.out⟩
      case measure => simp [intOf]; omega
    · obtain rfl : k = P := by omega
      have HSr := Lib.hid (HS1.out.keep0 HK.out)
      have c10 : wr.cell? ⟨p, 10, none⟩ = some (.int .i64 (c : Int)) := by obtain ⟨V, h4, _⟩ := HSr.out; exact h4.c10
      have fz : wr.frozen? ⟨p, 10, none⟩ = false := by obtain ⟨V, h4, _⟩ := HSr.out; exact h4.fz 10
      go_wp2
      go_region
      all_goals
        have hq := bs_free (fr' := ((c + k : Nat) : Int)) HSr.out HFR.out (Keep.drew (Keep.refl (fun _ => False) wr))
        have HQ1 : Hid (BS ((World.drew wr).setCell ⟨p, 10, none⟩ (.int .i64 ((c + k : Nat) : Int))) B p n S ((c + k : Nat) : Int) (fun x => G x ∨ w.heap.size ≤ x)) := hq.1.mono fun x hx => .inl hx
        have HQ2 : Hid (Keep (fun z => z = p ∨ G z ∨ w.heap.size ≤ z) w ((World.drew wr).setCell ⟨p, 10, none⟩ (.int .i64 ((c + k : Nat) : Int)))) := (HK.out.mono (fun _ _ h => h.elim)).trans (hq.2.mono fun z _ h => .inl h)
        clear hq
        go_wp2
        go_loopw [1, 2] (fun sa si w4 => ∃ a q : Nat, q ≤ 8 ∧ sa = .int .i64 (a : Nat) ∧ si = .int .i64 (q : Nat) ∧ a % 2 ^ q = 0 ∧ blk F' q a ∧ ∃ S', Rp S' (subB F' q a) ∧ BS w4 B p n S' ((c + k : Nat) : Int) (fun x => G x ∨ w.heap.size ≤ x) ∧ Keep (fun z => z = p ∨ G z ∨ w.heap.size ≤ z) w w4) (fun _ si _ => 8 - (intOf si).toNat)
        case atStart => exact ⟨f, o, ho, rfl, rfl, HFO.out, HBL.out, S, HSF.out, HQ1.out, HQ2.out⟩
        case round =>
          obtain ⟨a, q, hq8, rfl, rfl, haq, hbl, S', hR', hbs, hkeep⟩ := hrel
          have HAQ := Lib.hid haq
          have HBLq := Lib.hid hbl
          have HR' := Lib.hid hR'
          have HBS := Lib.hid hbs
          have HKw := Lib.hid hkeep
          have han : a < n := HFn.out a (hbl a (Nat.le_refl _) (by have := p2 q; omega))
          have hB4 : B ≤ wr.heap.size := Nat.le_trans hB hkeep.size
          have HFIN : Hid ((q < 8 → S' q (oth q a) = false) → ∀ W, Keep (fun _ => False) wr W → Calls Tryz.prog 90 #[.pointer (some ⟨p, 0, none⟩), .int .i64 (a : Int), .int .i64 (q : Int)] W fun e w' => e = .returned (.tuple #[]) ∧ TookC w w' B p n F' G) := fun hs W K => by
            obtain ⟨r1, r2⟩ := rp_last HR'.out HBLq.out HAQ.out hq8 hs
            refine (put_any (Nat.le_trans hB4 K.size) (HBS.out.keep0 K) hq8 han r2).mono ?_
            rintro e w' ⟨rfl, g1, g2⟩
            refine ⟨rfl, ⟨_, ?_, r1, HFn.out⟩, ?_⟩
            · rw [HCA.out]
              exact g1.mono fun x hx => by
                rcases hx with hx | hx
                · exact hx
                · have := HKw.out.size; have := K.size; exact .inr (by omega)
            · refine Keep.mono (S := fun z => z = p ∨ G z ∨ w.heap.size ≤ z) ?_ (fun z hz h => by
                rcases h with h | h | h
                · exact .inl h
                · exact .inr h
                · omega)
              exact (HKw.out.on K (fun _ _ h => h.elim)).on g2 fun z _ h => by
                rcases h with h | h | h
                · exact .inl h
                · exact .inr (.inl h)
                · exact .inr (.inr h)
          clear haq hbl hR' hbs hkeep
          by_cases hq7 : q < 8
          · have hpq := pw q hq8
            obtain ⟨z1, z2⟩ := pw_w q hq8
            have hxo := xor_pow ⟨q, by omega⟩ ⟨a, by omega⟩ HAQ.out
            simp only at hxo
            have hos := oth_spec HAQ.out
            have HJOIN := Lib.hid (fun hs => rp_join HR'.out HBLq.out HAQ.out hq7 hs)
            obtain ⟨b, hbb⟩ : ∃ b, oth q a = b := ⟨_, rfl⟩
            rw [hbb] at hxo hos HFIN HJOIN
            have HPL := Lib.hid (fun W (K : Keep (fun _ => False) wr W) => by
              obtain ⟨V, hV, _⟩ := HBS.out.keep0 K
              exact place_any (b : Int) hV hq8)
            rw [li_contains] at HPL
            obtain ⟨Q, hQ⟩ : ∃ Q, 2 ^ q = Q := ⟨_, rfl⟩
            rw [hQ] at hxo z1 z2 hpq
            have qz : (0 : Int) ≤ (q : Int) := Int.natCast_nonneg q
            have q7 : (q : Int) < 8 := by omega
            clear hbb hQ hos
            cases hsb : S' q b with
            | true =>
              have hbn : b < n := mx_lt (F := subB F' q a) (fun i hi => HFn.out i ((subB_iff F' q a i).mp hi).1) ((HR'.out q b hq8).mp hsb)
              have HDR := Lib.hid (fun W (K : Keep (fun _ => False) wr W) => drop_any (Nat.le_trans hB4 K.size) (HBS.out.keep0 K) hq8 hbn hsb)
              obtain ⟨j1, j2, j3⟩ := HJOIN.out hsb
              have HJ := Lib.hid (And.intro j1 (And.intro j2 j3))
              rw [hsb, decide_eq_true hbn] at HPL
              simp only [Bool.and_true] at HPL
              have hmn := min_nat a b
              clear hsb j1 j2 j3
              go_wp2_with (first | (go_at_call 96; refine (HPL.out _ (by (repeat (first | exact Keep.refl _ _ | exact Keep.refl _ _ | refine Keep.drew ?_ | refine Keep.drewN ?_ _ | refine Keep.alloc ?_ _ | refine Keep.setNew ?_ (by omega) _)); done)).mono ?_; rintro e w5 ⟨rfl, hk5⟩; have HK5 := Lib.hid hk5; clear hk5) | (go_at_call 97; refine (HDR.out _ HK5.out).mono ?_; rintro e w6 ⟨rfl, hb6, hk6⟩; have HB6 : Hid (BS w6 B p n (dropS S' q b) ((c + k : Nat) : Int) (fun x => G x ∨ w.heap.size ≤ x)) := (hb6.mono fun x hx => (by rcases hx with hx | hx; (exact hx); have := HKw.out.size; have := HK5.out.size; exact .inr (by omega))); have HK6 : Hid (Keep (fun z => z = p ∨ G z ∨ w.heap.size ≤ z) w w6) := (HKw.out.on HK5.out (fun _ _ h => h.elim)).on hk6 (fun z _ h => h); clear hb6 hk6))
              go_roundw
              case rel => exact ⟨min a b, q + 1, by omega, by rw [← hmn]; go_num, by go_num, HJ.out.2.2, HJ.out.2.1, dropS S' q b, HJ.out.1, HB6.out, HK6.out⟩
              case measure => simp [intOf]; omega
            | false =>
              have HF2 := Lib.hid (HFIN.out (fun _ => hsb))
              rw [hsb] at HPL
              simp only [Bool.and_false] at HPL
              clear hsb
              go_wp2_with (first | (go_at_call 96; refine (HPL.out _ (by (repeat (first | exact Keep.refl _ _ | exact Keep.refl _ _ | refine Keep.drew ?_ | refine Keep.drewN ?_ _ | refine Keep.alloc ?_ _ | refine Keep.setNew ?_ (by omega) _)); done)).mono ?_; rintro e w5 ⟨rfl, hk5⟩; have HK5 := Lib.hid hk5; clear hk5) | (go_at_call 90; refine (HF2.out _ HK5.out).mono ?_; rintro e w6 ⟨rfl, ht6⟩))
              go_ret
              exact ⟨rfl, ht6⟩
          · have HF2 := Lib.hid (HFIN.out (fun h => absurd h hq7))
            obtain rfl : q = 8 := by omega
            go_wp2_with (go_at_call 90; refine (HF2.out _ (by (repeat (first | exact Keep.refl _ _ | exact Keep.refl _ _ | refine Keep.drew ?_ | refine Keep.drewN ?_ _ | refine Keep.alloc ?_ _ | refine Keep.setNew ?_ (by omega) _)); done)).mono ?_; rintro e w6 ⟨rfl, ht6⟩)
            go_ret
            exact ⟨rfl, ht6⟩

/- Part M: Buddy: New. -/
def upTo (at' : Nat) : Nat → Bool := fun i => decide (i < at')
def NInv (at' n : Nat) : Prop := ∀ j, 1 ≤ j → j ≤ 8 → at' % 2 ^ j = 0 ∨ n - at' < 2 ^ (j - 1)
theorem new_step {S : Nat → Nat → Bool} {a n k : Nat} (h : Rp S (upTo a)) (hi : NInv a n) (hk : k ≤ 8) (ha : a % 2 ^ k = 0) (hf : 2 ^ k ≤ n - a) (hg : ∀ j, k < j → j ≤ 8 → ¬ (a % 2 ^ j = 0 ∧ 2 ^ j ≤ n - a)) :
    Rp (putS S k a) (upTo (a + 2 ^ k)) ∧ S k a = false ∧ NInv (a + 2 ^ k) n := by
  have hp := p2 k
  have hup : k < 8 → a % 2 ^ (k + 1) = 0 ∧ n - a < 2 ^ (k + 1) := fun hk8 => by
    have h1 := hg (k + 1) (by omega) (by omega)
    rcases hi (k + 1) (by omega) (by omega) with h2 | h2
    · exact ⟨h2, by omega⟩
    · simp only [Nat.add_sub_cancel] at h2
      omega
  have hin : ∀ i, a ≤ i → i < a + 2 ^ k → upTo a i = false := fun i h1 h2 => by unfold upTo; rw [decide_eq_false_iff_not]; omega
  have hr := rp_put h hk ha hin (fun hk8 => by
    have h1 := (hup hk8).1
    have hps := p2s k
    refine ⟨a + 2 ^ k, by rw [dn_self h1]; omega, by rw [dn_self h1]; omega, by omega, by unfold upTo; rw [decide_eq_false_iff_not]; omega⟩)
  refine ⟨?_, ?_, fun j h1 h2 => ?_⟩
  · have e : addB (upTo a) k a = upTo (a + 2 ^ k) := by
      funext i
      rw [Bool.eq_iff_iff, addB_iff]
      unfold upTo
      rw [decide_eq_true_eq, decide_eq_true_eq]
      omega
    rw [← e]; exact hr
  · rw [← Bool.not_eq_true, h k a hk]
    intro hm
    have := hm.2.2.1 a (Nat.le_refl _) (by omega)
    rw [hin a (Nat.le_refl _) (by omega)] at this
    cases this
  · by_cases hjk : j ≤ k
    · left
      have e := mod_of_le hjk ha
      have e2 : 2 ^ k % 2 ^ j = 0 := Nat.mod_eq_zero_of_dvd (Nat.pow_dvd_pow 2 hjk)
      rw [Nat.add_mod, e, e2]; rfl
    · right
      have h3 := (hup (by omega)).2
      have hps := p2s k
      have h4 := Nat.pow_le_pow_right (show 0 < 2 by decide) (show k ≤ j - 1 by omega)
      omega

theorem li_empty (n k : Nat) : li (fun _ _ => false) n k = [] := by
  unfold li ls; simp

set_option maxHeartbeats 400000 in
theorem new_bad (n : Int) (h : n < 8 ∨ 1024 < n) (w : World) : Calls Tryz.prog 72 #[.int .i64 n] w fun e w' => e = .returned (.tuple #[.pointer none, .int .i64 2]) ∧ Keep (fun _ => False) w w' := by
  by_cases h0 : n < 8
  · clear h
    go_enter Tryz.func72, Tryz.ntmps72
    go_wp2
    go_ret2
    exact ⟨rfl, (by (repeat (first | exact Keep.refl _ _ | exact Keep.refl _ _ | refine Keep.drew ?_ | refine Keep.drewN ?_ _ | refine Keep.alloc ?_ _ | refine Keep.setNew ?_ (by omega) _)); done)⟩
  · have h1 : 1024 < n := by omega
    clear h
    go_enter Tryz.func72, Tryz.ntmps72
    go_wp2
    go_ret2
    exact ⟨rfl, (by (repeat (first | exact Keep.refl _ _ | exact Keep.refl _ _ | refine Keep.drew ?_ | refine Keep.drewN ?_ _ | refine Keep.alloc ?_ _ | refine Keep.setNew ?_ (by omega) _)); done)⟩
theorem nsub (n a : Nat) (h : a ≤ n) (hn : n ≤ 1024) : IntKind.i64.wrap ((n : Int) - (a : Int)) = ((n - a : Nat) : Int) := by rw [show (n : Int) - (a : Int) = ((n - a : Nat) : Int) by omega]; exact IntWalk.i64_in _ (by omega)

set_option maxRecDepth 100000 in
set_option maxHeartbeats 8000000 in
theorem new_any (n B : Nat) (h0 : 8 ≤ n) (h1 : n ≤ 1024) (w : World) (hB : B ≤ w.heap.size) : Calls Tryz.prog 72 #[.int .i64 (n : Int)] w fun e w' => ∃ p, e = .returned (.tuple #[.pointer (some ⟨p, 0, none⟩), .int .i64 0]) ∧ BF w' B p n (upTo n) (fun x => w.heap.size ≤ x) ∧ w.heap.size ≤ p ∧ Keep (fun _ => False) w w' := by
  have n0 : (8 : Int) ≤ (n : Int) := by omega
  have n1 : (n : Int) ≤ 1024 := by omega
  have HBS : Hid (BS (w.alloc (.cells #[.int .i64 (n : Int), .slice none 0 0, .slice none 0 0, .slice none 0 0, .slice none 0 0, .slice none 0 0, .slice none 0 0, .slice none 0 0, .slice none 0 0, .slice none 0 0, .int .i64 0] 118)) B w.heap.size n (fun _ _ => false) 0 (fun x => w.heap.size ≤ x)) :=
    ⟨fun _ => .slice none 0 0, ⟨heap_alloc_new w _, fun k hk => by rw [li_empty]; exact OwnL.nil _ _ _, fun j k _ _ _ x hx => (by cases hx), h1, by omega⟩, fun j hj x hx => by cases hx⟩
  have HKA : Hid (Keep (fun _ => False) w (w.alloc (.cells #[.int .i64 (n : Int), .slice none 0 0, .slice none 0 0, .slice none 0 0, .slice none 0 0, .slice none 0 0, .slice none 0 0, .slice none 0 0, .slice none 0 0, .slice none 0 0, .int .i64 0] 118))) := (Keep.refl _ _).alloc _
  have HR0 : Hid (Rp (fun _ _ => false) (upTo 0)) := fun k a hk => ⟨fun h => (by cases h), fun hm => by have := hm.2.2.1 a (Nat.le_refl _) (by have := p2 k; omega); simp [upTo] at this⟩
  have HI0 : Hid (NInv 0 n) := fun j _ _ => .inl (Nat.zero_mod _)
  go_enter Tryz.func72, Tryz.ntmps72
  go_wp2
  generalize hw1 : w.alloc (.cells #[.int .i64 (n : Int), .slice none 0 0, .slice none 0 0, .slice none 0 0, .slice none 0 0, .slice none 0 0, .slice none 0 0, .slice none 0 0, .slice none 0 0, .slice none 0 0, .int .i64 0] 118) = w1 at HBS HKA ⊢
  obtain ⟨p, hp⟩ : ∃ p, w.heap.size = p := ⟨_, rfl⟩
  have HP := Lib.hid hp
  rw [hp] at HBS ⊢
  clear hw1 hp
  go_loopw [5] (fun i wr => ∃ a : Nat, a ≤ n ∧ i = .int .i64 a ∧ NInv a n ∧ ∃ S, Rp S (upTo a) ∧ BS wr B p n S 0 (fun x => p ≤ x) ∧ Keep (fun z => p ≤ z) w wr) (fun i _ => n - (intOf i).toNat)
  case atStart => exact ⟨0, by omega, rfl, HI0.out, _, HR0.out, HBS.out, HKA.out.mono (fun _ _ h => h.elim)⟩
  case round =>
    obtain ⟨a, ha, rfl, hi, S, hR, hb, hkeep⟩ := hrel
    have HI := Lib.hid hi
    have HR := Lib.hid hR
    have HB := Lib.hid hb
    have HK := Lib.hid hkeep
    clear hi hR hb hkeep
    by_cases hlt : a < n
    · have hsb := nsub n a ha h1
      go_wp2
      go_loopw [6] (fun i w5 => ∃ k : Nat, k ≤ 8 ∧ i = .int .i64 k ∧ (∀ j, k < j → j ≤ 8 → ¬ (a % 2 ^ j = 0 ∧ 2 ^ j ≤ n - a)) ∧ Keep (fun _ => False) wr w5) (fun i _ => (intOf i).toNat)
      case atStart => exact ⟨8, by omega, rfl, fun j h1 h2 => by omega, Keep.refl _ _⟩
      case round =>
        obtain ⟨k, hk, rfl, hno, hk5⟩ := hrel
        have HNO := Lib.hid hno
        have HK5 := Lib.hid hk5
        clear hno hk5
        obtain ⟨P, hP, e1, e2, hpb, s1, s2, -, hb⟩ := bits_k k a hk (by omega)
        have kz : (0 : Int) ≤ (k : Int) := Int.natCast_nonneg k
        by_cases hok : a % P = 0
        · rw [hok] at hb
          by_cases hfit : P ≤ n - a
          · have t2 : decide (((n - a : Nat) : Int) < (P : Int)) = false := decide_eq_false (by omega)
            have t2' : decide (n - a < P) = false := decide_eq_false (by omega)
            have hst := new_step HR.out HI.out hk (by rw [← hP]; exact hok) (by rw [← hP]; exact hfit) HNO.out
            have HST := Lib.hid hst
            have HPP := Lib.hid hP
            have a1 := wsum a P (by omega) (by omega)
            have haP : a + P ≤ n := by omega
            clear hst hok hP
            go_wp2_with (go_at_call 90; go_loud (refine (put_any (Nat.le_trans hB (Nat.le_trans HK.out.size HK5.out.size)) (HB.out.keep0 HK5.out) hk hlt HST.out.2.1).mono ?_); go_loud (rintro e w6 ⟨rfl, hb6, hk6⟩; have HB6 : Hid (BS w6 B p n (putS S k a) 0 (fun x => p ≤ x)) := (hb6.mono fun x hx => (by rcases hx with hx | hx; (exact hx); have := HK.out.size; have := HK5.out.size; have := HP.out; omega)); have HK6 : Hid (Keep (fun z => p ≤ z) w w6) := (HK.out.on HK5.out (fun _ _ h => h.elim)).on hk6 (fun z _ h => (by rcases h with h | h; (exact Nat.le_of_eq h.symm); exact h)); clear hb6 hk6))
            go_roundw
            case rel => exact ⟨a + P, haP, by go_num, by rw [HPP.out]; exact HST.out.2.2, putS S k a, by rw [HPP.out]; exact HST.out.1, HB6.out, HK6.out⟩
            case measure => simp [intOf]; omega
          · have t2 : decide (((n - a : Nat) : Int) < (P : Int)) = true := decide_eq_true (by omega)
            have t2' : decide (n - a < P) = true := decide_eq_true (by omega)
            rcases k with _ | k
            · simp at hP; omega
            · have HN2 : Hid (∀ j, k < j → j ≤ 8 → ¬ (a % 2 ^ j = 0 ∧ 2 ^ j ≤ n - a)) := fun j h1 h2 => by
                by_cases e : j = k + 1
                · subst e; rw [← hP]; exact fun h => hfit h.2
                · exact HNO.out j (by omega) h2
              clear hok hP
              go_wp2
              go_roundw
              case rel => exact ⟨k, by omega, by go_num, HN2.out, HK5.out⟩
              case measure => (simp [intOf]; try omega)
        · obtain ⟨r, hr⟩ : ∃ r, a % P = r := ⟨_, rfl⟩
          rw [hr] at hb hok
          have t1 : ((r : Int) != 0) = true := by rw [bne_iff_ne]; omega
          rcases k with _ | k
          · simp at hP; rw [hP, Nat.mod_one] at hr; omega
          · have HN2 : Hid (∀ j, k < j → j ≤ 8 → ¬ (a % 2 ^ j = 0 ∧ 2 ^ j ≤ n - a)) := fun j h1 h2 => by
              by_cases e : j = k + 1
              · subst e; rw [← hP, hr]; exact fun h => hok h.1
              · exact HNO.out j (by omega) h2
            clear hok hP hr
            go_wp2
            go_roundw
            case rel => exact ⟨k, by omega, by go_num, HN2.out, HK5.out⟩
            case measure => (simp [intOf]; try omega)
    · obtain rfl : a = n := by omega
      have hcn : cnt (upTo a) a = a := by
        unfold cnt
        have : (List.range a).countP (upTo a) = (List.range a).length := by
          rw [List.countP_eq_length]
          intro i hi
          rw [List.mem_range] at hi
          simp [upTo, hi]
        rw [this, List.length_range]
      have HCN := Lib.hid hcn
      have fz : wr.frozen? ⟨p, 10, none⟩ = false := by obtain ⟨V, h4, _⟩ := HB.out; exact h4.fz 10
      have c10 : wr.cell? ⟨p, 10, none⟩ = some (.int .i64 0) := by obtain ⟨V, h4, _⟩ := HB.out; exact h4.c10
      clear hcn
      go_wp2
      go_ret2
      have hq := bs_free (fr' := ((a : Nat) : Int)) HB.out (by omega) (Keep.refl (fun _ => False) wr)
      refine ⟨p, rfl, ⟨S, ?_, HR.out, fun i hi => by simpa [upTo] using hi⟩, by rw [HP.out]; exact Nat.le_refl _, ?_⟩
      · rw [HCN.out, HP.out]; exact hq.1
      · exact ((HK.out.mono fun _ _ h => h).on hq.2 fun z _ h => by subst h; exact Nat.le_refl _).fresh (fun _ h => h) (by rw [HP.out]; exact Nat.le_refl _)

end Go.Proofs.YtjffdimlbppgcaaGreat
