/- CompoundSplits: the plain law, and what the round needs. -/
import Derived.Test.YtdomdjfecnbenaaAJ
import Derived.Test.YtdomdjfecnbenaaV
set_option linter.unusedVariables false
set_option linter.unusedSimpArgs false
namespace Go.Proofs.Ytdomdjfecnbenaa
open Go.RowKit Go.Own

def pcs (L : List Cp) : Nat := (L.map fun c => pcN c.b 8).sum
theorem pcs_append (A B : List Cp) : pcs (A ++ B) = pcs A + pcs B := by unfold pcs; rw [List.map_append, List.sum_append]
theorem pcs_one (c : Cp) : pcs [c] = pcN c.b 8 := by simp [pcs]
theorem pcs_perm {A B : List Cp} (h : A.Perm B) : pcs A = pcs B := by
  induction h with
  | nil => rfl
  | cons x _ ih => simp only [pcs, List.map_cons, List.sum_cons] at *; omega
  | swap x y l => simp only [pcs, List.map_cons, List.sum_cons]; omega
  | trans _ _ a b => exact a.trans b
theorem pcs_rmv {L : List Cp} {k : Nat} (hk : k < L.length) : pcs L = pcN L[k].b 8 + pcs (rmv L k) := by
  rw [pcs_perm (rmv_perm hk)]; simp [pcs]
theorem pcs_zero {L : List Cp} (h : ∀ c, c ∈ L → c.b = 0) : pcs L = 0 := by
  induction L with
  | nil => rfl
  | cons c L ih =>
    have h1 := h c (List.mem_cons_self ..)
    have h2 := ih fun d hd => h d (List.mem_cons_of_mem _ hd)
    simp only [pcs, List.map_cons, List.sum_cons] at *
    rw [h2, h1]; rfl
theorem lostC_pcs (L : List Cp) : ∀ k, k ≤ L.length → lostC L k = pcs (L.take k) := by
  intro k
  induction k with
  | zero => intro _; rfl
  | succ k ih =>
    intro hk
    rw [List.take_succ_eq_append_getElem (by omega)]
    rw [pcs_append, pcs_one]
    simp only [lostC, ih (by omega), lostN_pc]
    rw [show L.getD k ⟨0, 0⟩ = L[k] by simp [show k < L.length by omega]]
def pcX (X : List On) : Nat → Nat
  | 0 => 0
  | k + 1 => pcX X k + pcN (X.getD k ⟨0, 0, 0, 0, 0⟩).b 8
theorem pcX_pcs (X : List On) : ∀ k, k ≤ X.length → pcX X k = pcs ((X.take k).map On.cp) := by
  intro k
  induction k with
  | zero => intro _; rfl
  | succ k ih =>
    intro hk
    rw [List.take_succ_eq_append_getElem (by omega)]
    rw [List.map_append, pcs_append]
    simp only [pcX, ih (by omega)]
    rw [show X.getD k ⟨0, 0, 0, 0, 0⟩ = X[k] by simp [show k < X.length by omega]]
    simp only [List.map_cons, List.map_nil, pcs_one, On.cp]
theorem pcX_le (X : List On) : ∀ k, pcX X k ≤ 8 * k := by
  intro k
  induction k with
  | zero => exact Nat.le_refl _
  | succ k ih => have := pcN_le (X.getD k ⟨0, 0, 0, 0, 0⟩).b 8; simp only [pcX]; omega
theorem pcs_le (L : List Cp) : pcs L ≤ 8 * L.length := by
  induction L with
  | nil => exact Nat.le_refl _
  | cons c L ih => have := pcN_le c.b 8; simp only [pcs, List.map_cons, List.sum_cons, List.length_cons] at *; omega

theorem lostN_mem (f : Int) (b : Nat) (g : Int) : ∀ k, g ∈ lostN f b k ↔ ∃ t : Nat, t < k ∧ g = f + t ∧ b / 2 ^ t % 2 = 1 := by
  intro k
  induction k with
  | zero => simp [lostN]
  | succ k ih =>
    simp only [lostN, List.mem_append, ih]
    constructor
    · rintro (⟨t, h1, h2, h3⟩ | h)
      · exact ⟨t, by omega, h2, h3⟩
      · by_cases e : b / 2 ^ k % 2 = 1
        · rw [if_pos e] at h; simp at h; exact ⟨k, by omega, h, e⟩
        · rw [if_neg e] at h; cases h
    · rintro ⟨t, h1, h2, h3⟩
      by_cases e : t = k
      · subst e; right; rw [if_pos h3]; simp [h2]
      · exact .inl ⟨t, by omega, h2, h3⟩
theorem lostN_lt (f : Int) (b : Nat) : ∀ k, (lostN f b k).Pairwise (· < ·) := by
  intro k
  induction k with
  | zero => exact List.Pairwise.nil
  | succ k ih =>
    simp only [lostN]
    rw [List.pairwise_append]
    refine ⟨ih, by split <;> simp, fun a ha c hc => ?_⟩
    obtain ⟨t, h1, rfl, _⟩ := (lostN_mem f b a k).mp ha
    by_cases e : b / 2 ^ k % 2 = 1
    · rw [if_pos e] at hc; simp at hc; omega
    · rw [if_neg e] at hc; cases hc

theorem lvQ_head (f : Int) (Q : List Int) : lvQ (f :: Q) f = Q := by
  have h : ixI (f :: Q) f = 0 := by
    unfold ixI
    exact ixN_hit (i := 0) (by simp) (by simp) (by simp)
  unfold lvQ
  rw [if_neg (by omega), h]
  simp [rmv]

theorem Inv.qlen {L : List Cp} {Q : List Int} {X : List On} {T : Int} (h : Inv L Q X T) : Q.length ≤ X.length := by
  have h4 : (qL L Q).Perm (L.filter fun c => decide (c.b ≠ 0)) := by
    rw [List.perm_iff_count]
    intro c
    by_cases hc : c ∈ L
    · rw [h.count_q hc]
      by_cases hb : c.b ≠ 0
      · have h1 : 0 < (L.filter fun c => decide (c.b ≠ 0)).count c := List.count_pos_iff.mpr (List.mem_filter.mpr ⟨hc, by simpa using hb⟩)
        have h2 := List.nodup_iff_count.mp ((so_nodup h.so).sublist (List.filter_sublist (p := fun c => decide (c.b ≠ 0)))) c
        rw [if_pos hb]; omega
      · rw [if_neg hb, List.count_eq_zero.mpr (fun hm => hb (by simpa using (List.mem_filter.mp hm).2))]
    · rw [List.count_eq_zero.mpr (fun hm => hc ((h.mem_q c).mp hm).1), List.count_eq_zero.mpr (fun hm => hc (List.mem_filter.mp hm).1)]
  have h5 := h4.length_eq
  rw [qL_len] at h5
  have h6 := List.length_filter_le (fun c : Cp => decide (c.b ≠ 0)) L
  have h7 := h.pm.length_eq
  rw [List.length_map] at h7
  omega

/-- At the head of a round: k are split, n frames told, MT is which were met. -/
structure SpV (w wr : World) (p q gm : Nat) (vx : Value) (L : List Cp) (Q : List Int) (X : List On) (T : Int) (k n : Nat) (v u : Value) (Lk : List Cp) (Xk : List On) (MT : List Bool) : Prop where
  rc : RepC wr w.heap.size p v u Lk (Q.drop k)
  iv : Inv Lk (Q.drop k) Xk T
  rx : RepX wr w.heap.size q vx X T
  sb : ∀ c, c ∈ Lk → c ∈ L
  om : OwnL boE wr w.heap.size 4 (.slice (some ⟨gm, 0, none⟩) 1024 1024) MT
  ml : MT.length = 1024
  mt : ∀ f : Nat, f < 1024 → MT.getD f false = true → ∀ c, c ∈ Lk → c.f ≠ ((f / 8 * 8 : Nat) : Int)
  pn : n + pcs Lk = pcs L
  pw : w.heap.size ≤ p
  kp : Keep (fun _ => False) w wr
def SpI (w wr : World) (p q gm : Nat) (vx : Value) (L : List Cp) (Q : List Int) (X : List On) (T : Int) (k n : Nat) : Prop := ∃ v u Lk Xk MT, SpV w wr p q gm vx L Q X T k n v u Lk Xk MT

set_option maxHeartbeats 400000 in
theorem next_empty (B p : Nat) (v u : Value) (L : List Cp) (w : World) (hR : RepC w B p v u L []) :
    Calls Try.prog 15 #[.pointer (some ⟨p, 0, none⟩)] w fun e w' => e = .returned (.tuple #[cpV ⟨0, 0⟩, .bool false]) ∧ Keep (fun _ => False) w w' := by
  have KB : Hid (Keep (fun _ => False) w (w.alloc (.cells #[.int .i64 0, .int .u8 0] 39))) := (Keep.refl _ _).alloc _
  have hRB := Lib.hid (hR.keep0 KB.out)
  have hc1 := hRB.out.c1
  obtain ⟨a, c, rfl, -⟩ := hR.hu.slice
  go_enter Try.func15, Try.ntmps15
  go_wp2
  exact bodyPost_ret (v := .tuple #[cpV ⟨0, 0⟩, .bool false]) (by simp [results, Try.results15, go_sem, cpV]) rfl ⟨rfl, (by (repeat (first | exact Keep.refl _ _ | exact Keep.refl _ _ | refine Keep.drew ?_ | refine Keep.drewN ?_ _ | refine Keep.alloc ?_ _ | refine Keep.setNew ?_ (by omega) _)); done)⟩

end Go.Proofs.Ytdomdjfecnbenaa
