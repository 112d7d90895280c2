/- Buddy: wrong, TakeAt. -/
import Derived.Test.YtnjcchgbkemekaaH
import Derived.Laws.Bits128
set_option linter.unusedVariables false
set_option linter.unusedSimpArgs false
namespace Go.Proofs.Ytnjcchgbkemekaa
open Go.RowKit Go.Own

theorem and_lo (k : Nat) (hk : k ≤ 8) (n : Int) : bits .and .i64 n (((2 ^ k : Nat) : Int) - 1) = n % ((2 ^ k : Nat) : Int) := by
  have hm : (BitVec.ofInt 64 (((2 ^ k : Nat) : Int) - 1)).toNat = 2 ^ k - 1 := by
    rcases le8 hk with rfl | rfl | rfl | rfl | rfl | rfl | rfl | rfl | rfl <;> decide
  have key : (BitVec.ofInt 64 n &&& BitVec.ofInt 64 (((2 ^ k : Nat) : Int) - 1)).toNat = (n % ((2 ^ 64 : Nat) : Int)).toNat % 2 ^ k := by
    rw [BitVec.toNat_and, BitVec.toNat_ofInt, hm, Nat.and_two_pow_sub_one_eq_mod]
  show IntKind.i64.wrap ((BitVec.ofInt 64 n &&& BitVec.ofInt 64 (((2 ^ k : Nat) : Int) - 1)).toNat : Nat) = n % ((2 ^ k : Nat) : Int)
  rw [key, IntKind.wrap_i64]
  rcases le8 hk with rfl | rfl | rfl | rfl | rfl | rfl | rfl | rfl | rfl <;> simp <;> omega
/-- What is wrong with a block. -/
def wrE (n : Nat) (f o : Int) : Int := if o < 0 ∨ 8 < o ∨ f % ((2 ^ o.toNat : Nat) : Int) ≠ 0 then 2 else if f < 0 ∨ (n : Int) ≤ f ∨ (n : Int) - f < ((2 ^ o.toNat : Nat) : Int) then 3 else 0
theorem wrE_ok {n : Nat} {f o : Int} (h : wrE n f o = 0) : ∃ f' o' : Nat, f = f' ∧ o = o' ∧ o' ≤ 8 ∧ f' % 2 ^ o' = 0 ∧ f' + 2 ^ o' ≤ n := by
  unfold wrE at h
  split at h
  · cases h
  · rename_i h1
    split at h
    · cases h
    · rename_i h2
      obtain ⟨o', rfl⟩ := Int.eq_ofNat_of_zero_le (show 0 ≤ o by omega)
      obtain ⟨f', rfl⟩ := Int.eq_ofNat_of_zero_le (show 0 ≤ f by omega)
      rw [Int.toNat_natCast] at h1 h2
      refine ⟨f', o', rfl, rfl, by omega, ?_, by omega⟩
      have h3 : (f' : Int) % ((2 ^ o' : Nat) : Int) = 0 := by
        by_cases e : (f' : Int) % ((2 ^ o' : Nat) : Int) = 0
        · exact e
        · exact absurd (.inr (.inr e)) h1
      rw [← Int.natCast_emod] at h3
      exact Int.ofNat.inj h3
theorem wr_n (n : Nat) (f : Int) (hn : n ≤ 1024) (h0 : 0 ≤ f) (h1 : f < n) : IntKind.i64.wrap ((n : Int) - f) = (n : Int) - f := IntWalk.i64_in _ (by omega)

set_option maxRecDepth 100000 in
set_option maxHeartbeats 2000000 in
theorem wrong_any {w : World} {B p n : Nat} {S : Nat → Nat → Bool} {fr : Int} {G : Nat → Prop} (f o : Int) (h : BS w B p n S fr G) :
    Calls Try.prog 49 #[.pointer (some ⟨p, 0, none⟩), .int .i64 f, .int .i64 o] w fun e w' => e = .returned (.int .i64 (wrE n f o)) ∧ Keep (fun _ => False) w w' := by
  have c0 : w.cell? ⟨p, 0, none⟩ = some (.int .i64 (n : Int)) := by obtain ⟨V, h1, _⟩ := h; exact h1.c0
  have hn : n ≤ 1024 := by obtain ⟨V, h1, _⟩ := h; exact h1.hn
  clear h
  by_cases h0 : o < 0
  · have HE : Hid (wrE n f o = 2) := by unfold Hid wrE; rw [if_pos (.inl h0)]
    go_enter Try.func49, Try.ntmps49
    go_wp2
    go_ret
    exact ⟨ret_int HE.out.symm, (by (repeat (first | exact Keep.refl _ _ | exact Keep.refl _ _ | refine Keep.drew ?_ | refine Keep.drewN ?_ _ | refine Keep.alloc ?_ _ | refine Keep.setNew ?_ (by omega) _)); done)⟩
  by_cases h8 : 8 < o
  · have HE : Hid (wrE n f o = 2) := by unfold Hid wrE; rw [if_pos (.inr (.inl h8))]
    go_enter Try.func49, Try.ntmps49
    go_wp2
    go_ret
    exact ⟨ret_int HE.out.symm, (by (repeat (first | exact Keep.refl _ _ | exact Keep.refl _ _ | refine Keep.drew ?_ | refine Keep.drewN ?_ _ | refine Keep.alloc ?_ _ | refine Keep.setNew ?_ (by omega) _)); done)⟩
  obtain ⟨k, rfl⟩ := Int.eq_ofNat_of_zero_le (show 0 ≤ o by omega)
  have hk : k ≤ 8 := by omega
  have hb := and_lo k hk f
  have hp := pw k hk
  obtain ⟨e1, e2⟩ := pw_w k hk
  have hw : wrE n f (k : Int) = if f % ((2 ^ k : Nat) : Int) ≠ 0 then 2 else if f < 0 ∨ (n : Int) ≤ f ∨ (n : Int) - f < ((2 ^ k : Nat) : Int) then 3 else 0 := by
    unfold wrE
    rw [Int.toNat_natCast]
    by_cases e : f % ((2 ^ k : Nat) : Int) ≠ 0
    · rw [if_pos (.inr (.inr e)), if_pos e]
    · rw [if_neg (fun hh => hh.elim h0 (fun hh => hh.elim h8 e)), if_neg e]
  obtain ⟨P, hP⟩ : ∃ P, 2 ^ k = P := ⟨_, rfl⟩
  rw [hP] at hb hp e1 e2 hw
  obtain ⟨s1, s2⟩ := p_sub P hp
  clear hP h0 h8
  have k8 : (k : Int) ≤ 8 := by omega
  have kz : (0 : Int) ≤ (k : Int) := Int.natCast_nonneg k
  by_cases hf : f % (P : Int) = 0
  · rw [if_neg (by simpa using hf)] at hw
    have t1 : (f % (P : Int) != 0) = false := by rw [bne_eq_false_iff_eq]; exact hf
    clear hf
    by_cases h1 : f < 0
    · rw [if_pos (.inl h1)] at hw
      have HE := Lib.hid hw
      have t2 : decide (f < 0) = true := decide_eq_true h1
      clear hw
      go_enter Try.func49, Try.ntmps49
      go_wp2
      go_quiet (fail)
      go_wp2
      go_ret
      exact ⟨ret_int HE.out.symm, (by (repeat (first | exact Keep.refl _ _ | exact Keep.refl _ _ | refine Keep.drew ?_ | refine Keep.drewN ?_ _ | refine Keep.alloc ?_ _ | refine Keep.setNew ?_ (by omega) _)); done)⟩
    have t2 : decide (f < 0) = false := decide_eq_false h1
    by_cases h2 : (n : Int) ≤ f
    · rw [if_pos (.inr (.inl h2))] at hw
      have HE := Lib.hid hw
      have t3 : decide ((n : Int) ≤ f) = true := decide_eq_true h2
      clear hw
      go_enter Try.func49, Try.ntmps49
      go_wp2
      go_quiet (fail)
      go_wp2
      go_ret
      exact ⟨ret_int HE.out.symm, (by (repeat (first | exact Keep.refl _ _ | exact Keep.refl _ _ | refine Keep.drew ?_ | refine Keep.drewN ?_ _ | refine Keep.alloc ?_ _ | refine Keep.setNew ?_ (by omega) _)); done)⟩
    have t3 : decide ((n : Int) ≤ f) = false := decide_eq_false h2
    have a1 := wr_n n f hn (by omega) (by omega)
    by_cases h3 : (n : Int) - f < (P : Int)
    · rw [if_pos (.inr (.inr h3))] at hw
      have HE := Lib.hid hw
      have t4 : decide ((n : Int) - f < (P : Int)) = true := decide_eq_true h3
      clear hw
      go_enter Try.func49, Try.ntmps49
      go_wp2
      go_quiet (fail)
      go_wp2
      go_ret
      exact ⟨ret_int HE.out.symm, (by (repeat (first | exact Keep.refl _ _ | exact Keep.refl _ _ | refine Keep.drew ?_ | refine Keep.drewN ?_ _ | refine Keep.alloc ?_ _ | refine Keep.setNew ?_ (by omega) _)); done)⟩
    · rw [if_neg (fun hh => hh.elim h1 (fun hh => hh.elim h2 h3))] at hw
      have HE := Lib.hid hw
      have t4 : decide ((n : Int) - f < (P : Int)) = false := decide_eq_false h3
      clear hw
      go_enter Try.func49, Try.ntmps49
      go_wp2
      go_quiet (fail)
      go_wp2
      go_ret
      exact ⟨ret_int HE.out.symm, (by (repeat (first | exact Keep.refl _ _ | exact Keep.refl _ _ | refine Keep.drew ?_ | refine Keep.drewN ?_ _ | refine Keep.alloc ?_ _ | refine Keep.setNew ?_ (by omega) _)); done)⟩
  · rw [if_pos hf] at hw
    have HE := Lib.hid hw
    have t1 : (f % (P : Int) != 0) = true := by rw [bne_iff_ne]; exact hf
    clear hw hf
    go_enter Try.func49, Try.ntmps49
    go_wp2
    go_ret
    exact ⟨ret_int HE.out.symm, (by (repeat (first | exact Keep.refl _ _ | exact Keep.refl _ _ | refine Keep.drew ?_ | refine Keep.drewN ?_ _ | refine Keep.alloc ?_ _ | refine Keep.setNew ?_ (by omega) _)); done)⟩
set_option maxHeartbeats 400000 in
theorem wrong_nil (f o : Int) (w : World) : Calls Try.prog 49 #[.pointer none, .int .i64 f, .int .i64 o] w fun e w' => e = .returned (.int .i64 1) ∧ Keep (fun _ => False) w w' := by
  go_enter Try.func49, Try.ntmps49
  go_wp2
  go_ret
  exact ⟨rfl, (by (repeat (first | exact Keep.refl _ _ | exact Keep.refl _ _ | refine Keep.drew ?_ | refine Keep.drewN ?_ _ | refine Keep.alloc ?_ _ | refine Keep.setNew ?_ (by omega) _)); done)⟩

/-- The block of a free stretch. -/
theorem mx_over {F : Nat → Bool} {k o f : Nat} (hm : mx F k (dn k f)) (ho : o ≤ 8) (hf : f % 2 ^ o = 0) : blk F o f ↔ o ≤ k := by
  have hp := p2 o
  constructor
  · intro hb
    obtain ⟨j, h1, h2⟩ := mx_up (F := F) f (8 - o) o (by omega) (by rw [dn_self hf]; exact hb)
    obtain ⟨h3, -⟩ := mx_uniq hm h2 (dn_le k f) (dn_lt k f) (dn_le j f) (dn_lt j f)
    omega
  · intro hk
    have q1 := dn_le k f
    have q2 := dn_lt k f
    rcases dy hk hf hm.2.1 with h' | h'
    · exact blk_in hm.2.2.1 h'.1 h'.2
    · omega
theorem mx_in {F : Nat → Bool} {k o f : Nat} (hm : mx F k (dn k f)) (ho : o ≤ k) (hf : f % 2 ^ o = 0) : dn k f ≤ f ∧ f + 2 ^ o ≤ dn k f + 2 ^ k := by
  have hp := p2 o
  have q1 := dn_le k f
  have q2 := dn_lt k f
  rcases dy ho hf hm.2.1 with h' | h'
  · exact h'
  · omega

/-- How many are free. -/
def cnt (F : Nat → Bool) (n : Nat) : Nat := (List.range n).countP F
theorem cnt_le (F : Nat → Bool) (n : Nat) : cnt F n ≤ n := by unfold cnt; have := List.countP_le_length (p := F) (l := List.range n); simpa using this
theorem cnt_split (F : Nat → Bool) (n f P : Nat) (h : f + P ≤ n) : cnt F n = cnt F f + (List.range' f P).countP F + (List.range' (f + P) (n - f - P)).countP F := by
  unfold cnt
  have e : List.range n = List.range f ++ (List.range' f P ++ List.range' (f + P) (n - f - P)) := by
    rw [List.range_eq_range', List.range_eq_range', List.range'_append_1]
    have := List.range'_append_1 (s := 0) (m := f) (n := P + (n - f - P))
    rw [Nat.zero_add, show f + (P + (n - f - P)) = n by omega] at this
    exact this.symm
  rw [e, List.countP_append, List.countP_append, Nat.add_assoc]
theorem countP_same {F F' : Nat → Bool} {l : List Nat} (h : ∀ i, i ∈ l → F i = F' i) : l.countP F = l.countP F' := List.countP_congr fun i hi => by rw [h i hi]
theorem cnt_sub {F : Nat → Bool} {n f o : Nat} (h : f + 2 ^ o ≤ n) (hb : blk F o f) : cnt F n = cnt (subB F o f) n + 2 ^ o := by
  rw [cnt_split F n f (2 ^ o) h, cnt_split (subB F o f) n f (2 ^ o) h]
  have h1 : cnt F f = cnt (subB F o f) f := by
    unfold cnt
    refine countP_same fun i hi => ?_
    rw [List.mem_range] at hi
    rw [Bool.eq_iff_iff, subB_iff]
    exact ⟨fun h => ⟨h, by omega⟩, fun h => h.1⟩
  have h2 : (List.range' f (2 ^ o)).countP F = 2 ^ o := by
    have : (List.range' f (2 ^ o)).countP F = (List.range' f (2 ^ o)).length := by
      rw [List.countP_eq_length]
      intro i hi
      rw [List.mem_range'_1] at hi
      exact hb i hi.1 hi.2
    rw [this, List.length_range']
  have h3 : (List.range' f (2 ^ o)).countP (subB F o f) = 0 := by
    rw [List.countP_eq_zero]
    intro i hi
    rw [List.mem_range'_1] at hi
    rw [subB_iff]
    exact fun h => h.2 hi
  have h4 : (List.range' (f + 2 ^ o) (n - f - 2 ^ o)).countP F = (List.range' (f + 2 ^ o) (n - f - 2 ^ o)).countP (subB F o f) := by
    refine countP_same fun i hi => ?_
    rw [List.mem_range'_1] at hi
    rw [Bool.eq_iff_iff, subB_iff]
    exact ⟨fun h => ⟨h, by omega⟩, fun h => h.1⟩
  rw [h1, h2, h3, h4]; omega
theorem sub_add {F : Nat → Bool} {o f : Nat} (hn : ∀ i, f ≤ i → i < f + 2 ^ o → F i = false) : subB (addB F o f) o f = F := by
  funext i
  rw [Bool.eq_iff_iff, subB_iff, addB_iff]
  constructor
  · rintro ⟨h1 | h1, h2⟩
    · exact h1
    · exact absurd h1 h2
  · intro h
    exact ⟨.inl h, fun ⟨h1, h2⟩ => by rw [hn i h1 h2] at h; cases h⟩
theorem cnt_add {F : Nat → Bool} {n f o : Nat} (h : f + 2 ^ o ≤ n) (hn : ∀ i, f ≤ i → i < f + 2 ^ o → F i = false) : cnt (addB F o f) n = cnt F n + 2 ^ o := by
  have h1 := cnt_sub (F := addB F o f) h (fun i h1 h2 => by rw [addB_iff]; exact .inr ⟨h1, h2⟩)
  rw [sub_add hn] at h1
  exact h1

/-- The object at large: F are free. -/
def BF (w : World) (B p n : Nat) (F : Nat → Bool) (G : Nat → Prop) : Prop := ∃ S, BS w B p n S (cnt F n : Nat) G ∧ Rp S F ∧ (∀ i, F i = true → i < n)
theorem BF.keep0 {w w' : World} {B p n : Nat} {F : Nat → Bool} {G : Nat → Prop} (h : BF w B p n F G) (k : Keep (fun _ => False) w w') : BF w' B p n F G := by
  obtain ⟨S, h1, h2⟩ := h
  exact ⟨S, h1.keep0 k, h2⟩
theorem BF.mono {w : World} {B p n : Nat} {F : Nat → Bool} {G G' : Nat → Prop} (h : BF w B p n F G) (hG : ∀ x, G x → G' x) : BF w B p n F G' := by
  obtain ⟨S, h1, h2⟩ := h
  exact ⟨S, h1.mono hG, h2⟩
theorem BF.keep {w w' : World} {B p n : Nat} {F : Nat → Bool} {G T : Nat → Prop} (h : BF w B p n F G) (k : Keep T w w') (hp : ¬ T p) (hG : ∀ x, G x → ¬ T x) : BF w' B p n F G := by
  obtain ⟨S, h1, h2⟩ := h
  exact ⟨S, h1.keep k hp hG, h2⟩
theorem BF.hn {w : World} {B p n : Nat} {F : Nat → Bool} {G : Nat → Prop} (h : BF w B p n F G) : n ≤ 1024 := by
  obtain ⟨S, ⟨V, h1, _⟩, _⟩ := h
  exact h1.hn
theorem BF.ran {w : World} {B p n : Nat} {F : Nat → Bool} {G : Nat → Prop} (h : BF w B p n F G) : ∀ i, F i = true → i < n := by
  obtain ⟨S, _, _, h1⟩ := h
  exact h1
/-- What a call leaves that took or gave. -/
def TookC (w w' : World) (B p n : Nat) (F' : Nat → Bool) (G : Nat → Prop) : Prop := BF w' B p n F' (fun x => G x ∨ w.heap.size ≤ x) ∧ Keep (fun z => z = p ∨ G z) w w'

theorem took_on {w W w' : World} {B p n : Nat} {F' : Nat → Bool} {G : Nat → Prop} (h : TookC W w' B p n F' G) (K : Keep (fun _ => False) w W) : TookC w w' B p n F' G :=
  ⟨h.1.mono fun x hx => hx.imp id (fun h => Nat.le_trans K.size h), (K.mono (fun _ _ h => h.elim)).trans h.2⟩
theorem carve_bf {w : World} {B p n K b o f : Nat} {F : Nat → Bool} {G : Nat → Prop} (hB : B ≤ w.heap.size) (h : BF w B p n F G) (hm : mx F K b) (ho : o ≤ K) (hfo : f % 2 ^ o = 0) (hf1 : b ≤ f) (hf2 : f + 2 ^ o ≤ b + 2 ^ K) (hG : ∀ x, G x → x < w.heap.size) :
    Calls Try.prog 51 #[.pointer (some ⟨p, 0, none⟩), .agg #[.int .i64 (b : Int), .int .i64 (K : Int)], .int .i64 (f : Int), .int .i64 (o : Int)] w fun e w' => e = .returned (.tuple #[]) ∧ TookC w w' B p n (subB F o f) G := by
  have hn := h.hn
  obtain ⟨S, h1, h2, h3⟩ := h
  have hc := cnt_le F n
  have hpo := p2 o
  have hlast : f + 2 ^ o ≤ n := by
    have := h3 (f + 2 ^ o - 1) (hm.2.2.1 _ (by omega) (by omega))
    omega
  refine (carve_any hB h1 h2 hm ho hfo hf1 hf2 h3 hG (by omega)).mono ?_
  rintro e w' ⟨rfl, S', g1, g2, g3⟩
  have hcs := cnt_sub hlast (blk_in hm.2.2.1 hf1 hf2)
  refine ⟨rfl, ⟨S', ?_, g2, fun i hi => h3 i ((subB_iff F o f i).mp hi).1⟩, g3⟩
  rw [show ((cnt (subB F o f) n : Nat) : Int) = (cnt F n : Nat) - (2 ^ o : Nat) by omega]
  exact g1

end Go.Proofs.Ytnjcchgbkemekaa
