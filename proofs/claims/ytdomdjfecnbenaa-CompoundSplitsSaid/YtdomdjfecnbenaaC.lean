/- Compounds: one leaves the queue; one is dropped. -/
import Derived.Test.YtdomdjfecnbenaaB
set_option linter.unusedVariables false
set_option linter.unusedSimpArgs false
namespace Go.Proofs.Ytdomdjfecnbenaa
open Go.RowKit Go.Own

set_option maxHeartbeats 400000 in
theorem find_nil (f : Int) (w : World) : Calls Try.prog 28 #[.pointer none, .int .i64 f] w fun e w' => e = .returned (.tuple #[.int .i64 0, .int .i64 1]) ∧ w = w' := by
  go_enter Try.func28, Try.ntmps28
  go_wp2
  go_ret2
  exact ⟨rfl, rfl⟩

set_option maxHeartbeats 400000 in
theorem find_no (B p : Nat) (v u : Value) (L : List Cp) (Q : List Int) (x : Nat) (hx : x < 1024) (w : World) (hR : RepC w B p v u L Q) (hn : whI L ((x / 8 * 8 : Nat) : Int) = -1) :
    Calls Try.prog 28 #[.pointer (some ⟨p, 0, none⟩), .int .i64 x] w fun e w' => e = .returned (.tuple #[.int .i64 0, .int .i64 6]) ∧ Keep (fun _ => False) w w' := by
  have HN := Lib.hid hn
  clear hn
  go_enter Try.func28, Try.ntmps28
  go_wp2_with (go_at_call 26; refine (where_any B p v u L Q x hx _ hR).mono ?_; rw [HN.out]; rintro e w1 ⟨rfl, hk1⟩)
  go_ret2
  exact ⟨rfl, hk1⟩

set_option maxHeartbeats 400000 in
theorem find_yes (B p : Nat) (v u : Value) (L : List Cp) (Q : List Int) (x k : Nat) (hx : x < 1024) (w : World) (hR : RepC w B p v u L Q) (hn : whI L ((x / 8 * 8 : Nat) : Int) = k) :
    Calls Try.prog 28 #[.pointer (some ⟨p, 0, none⟩), .int .i64 x] w fun e w' => e = .returned (.tuple #[.int .i64 k, .int .i64 0]) ∧ Keep (fun _ => False) w w' := by
  have HN := Lib.hid hn
  clear hn
  have hk0 : (0 : Int) ≤ k := by omega
  go_enter Try.func28, Try.ntmps28
  go_wp2_with (go_at_call 26; refine (where_any B p v u L Q x hx _ hR).mono ?_; rw [HN.out]; rintro e w1 ⟨rfl, hk1⟩)
  go_ret2
  exact ⟨rfl, hk1⟩

def ixN (Q : List Int) (f : Int) : Nat → Nat → Int
  | _, 0 => -1
  | i, n + 1 => if Q.getD i 0 = f then i else ixN Q f (i + 1) n
def ixI (Q : List Int) (f : Int) : Int := ixN Q f 0 Q.length
theorem ixN_hit {L : List Int} {f : Int} {i n : Nat} (h0 : 0 < n) (hi : i < L.length) (h : L[i] = f) : ixN L f i n = i := by
  obtain ⟨m, rfl⟩ : ∃ m, n = m + 1 := ⟨n - 1, by omega⟩
  simp [ixN, hi, h]
theorem ixN_miss {L : List Int} {f : Int} {i n : Nat} (h0 : 0 < n) (hi : i < L.length) (h : L[i] ≠ f) : ixN L f i n = ixN L f (i + 1) (n - 1) := by
  obtain ⟨m, rfl⟩ : ∃ m, n = m + 1 := ⟨n - 1, by omega⟩
  simp [ixN, hi, h]
theorem ixN_cases (L : List Int) (f : Int) : ∀ n i, i + n = L.length → (ixN L f i n = -1) ∨ (∃ k : Nat, ixN L f i n = k ∧ ∃ h : k < L.length, L[k] = f) := by
  intro n
  induction n with
  | zero => intro i h; exact .inl rfl
  | succ n ih =>
    intro i h
    by_cases c : L[i] = f
    · exact .inr ⟨i, ixN_hit (by omega) (by omega) c, by omega, c⟩
    · rw [ixN_miss (by omega) (by omega) c, Nat.succ_sub_one]
      exact ih (i + 1) (by omega)
theorem ixI_cases (L : List Int) (f : Int) : ixI L f = -1 ∨ (∃ k : Nat, ixI L f = k ∧ ∃ h : k < L.length, L[k] = f) := ixN_cases L f L.length 0 (by omega)

set_option maxHeartbeats 1000000 in
theorem ix_any (B : Nat) (v : Value) (L : List Int) (g : Int) (w : World) (hv : OwnL inE w B 3 v L) (hl : L.length ≤ 200) :
    Calls Try.prog 45 #[v, .int .i64 g] w fun e w' => e = .returned (.int .i64 (ixI L g)) ∧ w = w' := by
  rcases hv.any with ⟨rfl, rfl⟩ | ⟨q, cap, rfl, hBg, hcap, hmax, hgl⟩
  · go_enter Try.func45, Try.ntmps45
    go_wp2
    refine wp_loop_once ?_
    go_wp2
    go_ret
    exact ⟨rfl, rfl⟩
  · go_enter Try.func45, Try.ntmps45
    go_wp2
    go_loop [8] (fun i => ∃ k : Nat, k ≤ L.length ∧ i = .int .i64 k ∧ ixI L g = ixN L g k (L.length - k)) (fun i => L.length - (intOf i).toNat)
    case atStart => exact ⟨0, by omega, rfl, rfl⟩
    case round =>
      obtain ⟨k, hk, rfl, hr⟩ := hrel
      have HR := Lib.hid hr
      clear hr
      by_cases hlt : k < L.length
      · have c0 := in_cell hv hlt
        by_cases h1 : g = L[k]
        · have h1' : (g == L[k]) = true := by simpa using h1
          have hF : Hid (ixI L g = k) := by rw [Hid, HR.out, ixN_hit (by omega) hlt h1.symm]
          clear h1
          go_wp2
          go_ret
          exact ⟨ret_int hF.out.symm, rfl⟩
        · have h1' : (g == L[k]) = false := by simpa using h1
          have hF : Hid (ixI L g = ixN L g (k + 1) (L.length - (k + 1))) := by rw [Hid, HR.out, ixN_miss (by omega) hlt (fun h => h1 h.symm), Nat.sub_sub]
          clear h1
          go_wp2
          go_round
          case rel => exact ⟨k + 1, by omega, by go_num, hF.out⟩
          case measure => simp [intOf]; omega
      · go_wp2
        go_ret
        have e1 : ixI L g = -1 := by rw [HR.out, show L.length - k = 0 by omega]; rfl
        exact ⟨ret_int e1.symm, rfl⟩

def rmv {α : Type} (L : List α) (k : Nat) : List α := L.take k ++ L.drop (k + 1)
theorem rmv_length {α : Type} {L : List α} {k : Nat} (h : k < L.length) : (rmv L k).length = L.length - 1 := by simp [rmv]; omega

/-- The queue behind a leave. -/
def lvQ (Q : List Int) (f : Int) : List Int := if ixI Q f = -1 then Q else rmv Q (ixI Q f).toNat

theorem leave_close {w w2 : World} {B p k : Nat} {v u : Value} {L : List Cp} {Q : List Int} {a2 : Option Addr} {l2 c2 : Nat} (hR : RepC w B p v u L Q) (hk : k < Q.length) (hB : B ≤ w.heap.size)
    (HK2 : Keep (fun _ => False) w w2) (HO2 : w2.ownsRow w.heap.size 3 inE.k (.slice a2 l2 c2) (0 + k + (Q.length - (k + 1))) ([] ++ inE.cs (Q.take k) ++ inE.cs (Q.drop (k + 1)))) :
    ∃ u', RepC (w2.setCell ⟨p, 1, none⟩ (.slice a2 l2 c2)) B p v u' L (rmv Q k) ∧ Keep (fun x => x = p) w (w2.setCell ⟨p, 1, none⟩ (.slice a2 l2 c2)) ∧
      (∀ x, u'.ownBlock = some x → w.heap.size ≤ x) := by
  have hpl := block_lt hR.hp
  have hO : OwnL inE w2 B 3 (.slice a2 l2 c2) (rmv Q k) := by
    have := HO2
    rw [Nat.zero_add, List.nil_append, ← inE.cs_append] at this
    have h2 := ownsRow_base this (C := B) (fun x hx => by have := (HO2.lt x hx).1; omega)
    unfold OwnL rmv
    rw [List.length_append, List.length_take, List.length_drop, Nat.min_eq_left (Nat.le_of_lt hk)]
    exact h2
  have hlt2 := HO2.lt
  have KP := (Keep.refl (fun x => x = p) w2).setCell (p := ⟨p, 1, none⟩) (fun _ => rfl) (.slice a2 l2 c2)
  refine ⟨.slice a2 l2 c2, ⟨?_, ?_, ?_, hR.nv, ?_, ?_, hR.hl, ?_, hR.hb⟩, (HK2.mono (T := fun x => x = p) (fun _ _ h => h.elim)).setCell (fun _ => rfl) _, fun x hx => (hlt2 x hx).1⟩
  · rw [heap_setCell_eq ((HK2.block p hpl id).trans hR.hp)]; simp
  · exact (hR.hv.keep HK2 (fun _ _ => id)).keep KP (fun x hx e => hR.nv (e ▸ hx))
  · exact hO.keep KP (fun x hx => by have := (hlt2 x hx).1; omega)
  · intro e; have := (hlt2 p e).1; omega
  · intro x hx e; have := (hlt2 x e).1; have := (hR.hv.lt x hx).2; omega
  · rw [rmv_length hk]; have := hR.hq; omega

set_option maxHeartbeats 1000000 in
theorem leave_any (B p : Nat) (v u : Value) (L : List Cp) (Q : List Int) (f : Int) (w : World) (hB : B ≤ w.heap.size) (hR : RepC w B p v u L Q) :
    Calls Try.prog 33 #[.pointer (some ⟨p, 0, none⟩), .int .i64 f] w fun e w' => e = .returned (.tuple #[]) ∧ ∃ u', RepC w' B p v u' L (lvQ Q f) ∧ Keep (fun x => x = p) w w' ∧
      (∀ x, u'.ownBlock = some x → u.ownBlock = some x ∨ w.heap.size ≤ x) := by
  have hc1 := hR.c1
  have hpl := block_lt hR.hp
  rcases ixI_cases Q f with h1 | ⟨k, h1, hk, h3⟩
  · have H1 := Lib.hid h1
    clear h1
    go_enter Try.func33, Try.ntmps33
    go_wp2_with (go_at_call 45; refine (ix_any B u Q f _ hR.hu hR.hq).mono ?_; rw [H1.out]; rintro e w1 ⟨rfl, rfl⟩)
    go_end0
    exact ⟨rfl, u, by unfold lvQ; rw [if_pos H1.out]; exact hR, Keep.refl _ _, fun _ h => .inl h⟩
  · have H1 := Lib.hid h1
    clear h1
    obtain ⟨g, cap, rfl, hBg, hcap, hgl⟩ := hR.hu.form (by intro e; subst e; simp at hk)
    have hl := hR.hq
    have hne := hR.nu
    simp [Value.ownBlock] at hne
    have k0 : (0 : Int) ≤ k := by omega
    have k1 : (k : Int) ≤ cap := by omega
    have k2 : (k : Int) + 1 ≤ cap := by omega
    have k3 : (k : Int) + 1 ≤ Q.length := by omega
    have fz : w.frozen? ⟨p, 1, none⟩ = false := frozen_block hR.hp
    have hw1 : IntKind.i64.wrap (↑k + 1) = ↑k + 1 := IntWalk.i64_in _ (by omega)
    obtain ⟨vlo, hlo, hrlo⟩ := sl_lo et46 hR.hu (Nat.le_of_lt hk)
    obtain ⟨vhi, hhi, hrhi⟩ := sl_hi et46 hR.hu (i := k + 1) (by omega) (↑k + 1) (by simp)
    have RLO := Lib.hid hrlo
    have RHI := Lib.hid hrhi
    clear hrlo hrhi
    go_enter Try.func33, Try.ntmps33
    go_wp2_with (go_at_call 45; refine (ix_any B _ Q f _ hR.hu hR.hq).mono ?_; rw [H1.out]; rintro e w1 ⟨rfl, rfl⟩)
    go_region_law
      (first | (refine step_app et46 (by rfl) (.tmp 14) (.tmp 20) (by rfl) w.heap.size (.slice (some ⟨w.heap.size, 0, none⟩) 0 0) 0 [] (by rfl) (own_empty_at (heap_alloc_new w _) (Nat.le_refl _)) vlo k (inE.cs (Q.take k)) (by rfl) (RLO.out.keep (S := fun _ => False) (by (repeat (first | exact Keep.refl _ _ | exact Keep.refl _ _ | refine Keep.drew ?_ | refine Keep.drewN ?_ _ | refine Keep.alloc ?_ _ | refine Keep.setNew ?_ (by omega) _)); done) (fun _ _ _ _ => id)) (inE.cs_one_cell _) (by unfold maxLen; omega) (by omega) (by simp) ?_; intro v1 w1 hown1 hgrow1; have HK1 : Hid (Keep (fun _ => False) w w1) := Keep.grown (by (repeat (first | exact Keep.refl _ _ | exact Keep.refl _ _ | refine Keep.drew ?_ | refine Keep.drewN ?_ _ | refine Keep.alloc ?_ _ | refine Keep.setNew ?_ (by omega) _)); done) hgrow1 (fun x h1 h2 => by simp [Value.ownBlock] at h1; omega); obtain ⟨hz1, hz2⟩ := keepS2 HK1.out hpl id hc1 fz; have HO1 := Lib.hid hown1; clear hown1 hgrow1)
             | (refine step_app et46 (by rfl) (.tmp 21) (.tmp 28) (by rfl) w.heap.size v1 _ _ (by rfl) HO1.out vhi (Q.length - (k + 1)) (inE.cs (Q.drop (k + 1))) (by rfl) (RHI.out.keep HK1.out (fun _ _ _ _ => id)) (inE.cs_one_cell _) (by unfold maxLen; omega) (by omega) (by have := HK1.out.size; omega) ?_; intro v2 w2 hown2 hgrow2; obtain ⟨a2, l2, c2, rfl⟩ := own_slice hown2; have HK2 : Hid (Keep (fun _ => False) w w2) := Keep.grown HK1.out hgrow2 (fun x h1 h2 => by have := (HO1.out.lt x h1).1; omega); obtain ⟨hz3, hz4⟩ := keepS2 HK2.out hpl id hc1 fz; have HO2 := Lib.hid hown2; clear hown2 hgrow2))
    all_goals
      go_wp2
      go_end0
      obtain ⟨u', h1, h2, h3⟩ := leave_close hR hk hB HK2.out HO2.out
      exact ⟨rfl, u', by unfold lvQ; rw [if_neg (by rw [H1.out]; omega), H1.out, Int.toNat_natCast]; exact h1, h2, fun x hx => .inr (h3 x hx)⟩

theorem drop_close {w w2 : World} {B p k : Nat} {v u : Value} {L : List Cp} {Q : List Int} {a2 : Option Addr} {l2 c2 : Nat} (hR : RepC w B p v u L Q) (hk : k < L.length) (hB : B ≤ w.heap.size)
    (HK2 : Keep (fun _ => False) w w2) (HO2 : w2.ownsRow w.heap.size 39 cpE.k (.slice a2 l2 c2) (0 + k + (L.length - (k + 1))) ([] ++ cpE.cs (L.take k) ++ cpE.cs (L.drop (k + 1)))) :
    ∃ v', RepC (w2.setCell ⟨p, 0, none⟩ (.slice a2 l2 c2)) B p v' u (rmv L k) Q ∧ Keep (fun x => x = p) w (w2.setCell ⟨p, 0, none⟩ (.slice a2 l2 c2)) ∧
      (∀ x, v'.ownBlock = some x → w.heap.size ≤ x) := by
  have hpl := block_lt hR.hp
  have hO : OwnL cpE w2 B 39 (.slice a2 l2 c2) (rmv L k) := by
    have := HO2
    rw [Nat.zero_add, List.nil_append, ← cpE.cs_append] at this
    have h2 := ownsRow_base this (C := B) (fun x hx => by have := (HO2.lt x hx).1; omega)
    unfold OwnL rmv
    rw [List.length_append, List.length_take, List.length_drop, Nat.min_eq_left (Nat.le_of_lt hk)]
    exact h2
  have hlt2 := HO2.lt
  have KP := (Keep.refl (fun x => x = p) w2).setCell (p := ⟨p, 0, none⟩) (fun _ => rfl) (.slice a2 l2 c2)
  refine ⟨.slice a2 l2 c2, ⟨?_, ?_, ?_, ?_, hR.nu, ?_, ?_, hR.hq, ?_⟩, (HK2.mono (T := fun x => x = p) (fun _ _ h => h.elim)).setCell (fun _ => rfl) _, fun x hx => (hlt2 x hx).1⟩
  · rw [heap_setCell_eq ((HK2.block p hpl id).trans hR.hp)]; simp
  · exact hO.keep KP (fun x hx => by have := (hlt2 x hx).1; omega)
  · exact (hR.hu.keep HK2 (fun _ _ => id)).keep KP (fun x hx e => hR.nu (e ▸ hx))
  · intro e; have := (hlt2 p e).1; omega
  · intro x hx e; have := (hlt2 x hx).1; have := (hR.hu.lt x e).2; omega
  · rw [rmv_length hk]; have := hR.hl; omega
  · intro x hx
    unfold rmv at hx
    rcases List.mem_append.mp hx with h | h
    · exact hR.hb x (List.mem_of_mem_take h)
    · exact hR.hb x (List.mem_of_mem_drop h)


set_option maxHeartbeats 1000000 in
theorem drop_any (B p k : Nat) (v u : Value) (L : List Cp) (Q : List Int) (w : World) (hB : B ≤ w.heap.size) (hR : RepC w B p v u L Q) (hk : k < L.length) :
    Calls Try.prog 30 #[.pointer (some ⟨p, 0, none⟩), .int .i64 k] w fun e w' => e = .returned (.tuple #[]) ∧ ∃ v' u', RepC w' B p v' u' (rmv L k) (lvQ Q L[k].f) ∧ Keep (fun x => x = p) w w' ∧
      (∀ x, v'.ownBlock = some x → w.heap.size ≤ x) ∧ (∀ x, u'.ownBlock = some x → u.ownBlock = some x ∨ w.heap.size ≤ x) := by
  obtain ⟨g, cap, rfl, hBg, hcap, hgl⟩ := hR.hv.form (by intro e; subst e; simp at hk)
  have hl := hR.hl
  have hc0 := hR.c0
  obtain ⟨c0, c1⟩ := cp_cells hR.hv hk
  have k0 : (0 : Int) ≤ k := by omega
  have k1 : (k : Int) ≤ cap := by omega
  have k2 : (k : Int) + 1 ≤ cap := by omega
  have k3 : (k : Int) + 1 ≤ L.length := by omega
  have hw1 : IntKind.i64.wrap (↑k + 1) = ↑k + 1 := IntWalk.i64_in _ (by omega)
  go_enter Try.func30, Try.ntmps30
  go_wp2_with (go_at_call 33; refine (leave_any B p _ u L Q _ _ hB hR).mono ?_; rintro e w1 ⟨rfl, u1, hR1, hk1, hu1⟩; have HR1 := Lib.hid hR1; have HK1 := Lib.hid hk1; clear hR1 hk1 hc0 c0 c1)
  have hs1 := HK1.out.size
  have hc0 := HR1.out.c0
  have hpl := block_lt HR1.out.hp
  have fz : w1.frozen? ⟨p, 0, none⟩ = false := frozen_block HR1.out.hp
  obtain ⟨vlo, hlo, hrlo⟩ := sl_lo et31 HR1.out.hv (Nat.le_of_lt hk)
  obtain ⟨vhi, hhi, hrhi⟩ := sl_hi et31 HR1.out.hv (i := k + 1) (by omega) (↑k + 1) (by simp)
  have RLO := Lib.hid hrlo
  have RHI := Lib.hid hrhi
  clear hrlo hrhi
  go_region_law
    (first | (refine step_app et31 (by rfl) (.tmp 15) (.tmp 21) (by rfl) w1.heap.size (.slice (some ⟨w1.heap.size, 0, none⟩) 0 0) 0 [] (by rfl) (own_empty_at (heap_alloc_new w1 _) (Nat.le_refl _)) vlo k (cpE.cs (L.take k)) (by rfl) (RLO.out.keep (S := fun _ => False) (by (repeat (first | exact Keep.refl _ _ | exact Keep.refl _ _ | refine Keep.drew ?_ | refine Keep.drewN ?_ _ | refine Keep.alloc ?_ _ | refine Keep.setNew ?_ (by omega) _)); done) (fun _ _ _ _ => id)) (cpE.cs_one_cell _) (by unfold maxLen; omega) (by omega) (by simp) ?_; intro v2 w2 hown1 hgrow1; have HK2 : Hid (Keep (fun _ => False) w1 w2) := Keep.grown (by (repeat (first | exact Keep.refl _ _ | exact Keep.refl _ _ | refine Keep.drew ?_ | refine Keep.drewN ?_ _ | refine Keep.alloc ?_ _ | refine Keep.setNew ?_ (by omega) _)); done) hgrow1 (fun x h1 h2 => by simp [Value.ownBlock] at h1; omega); obtain ⟨hz1, hz2⟩ := keepS2 HK2.out hpl id hc0 fz; have HO2 := Lib.hid hown1; clear hown1 hgrow1)
           | (refine step_app et31 (by rfl) (.tmp 22) (.tmp 29) (by rfl) w1.heap.size v2 _ _ (by rfl) HO2.out vhi (L.length - (k + 1)) (cpE.cs (L.drop (k + 1))) (by rfl) (RHI.out.keep HK2.out (fun _ _ _ _ => id)) (cpE.cs_one_cell _) (by unfold maxLen; omega) (by omega) (by have := HK2.out.size; omega) ?_; intro v3 w3 hown2 hgrow2; obtain ⟨a2, l2, c2, rfl⟩ := own_slice hown2; have HK3 : Hid (Keep (fun _ => False) w1 w3) := Keep.grown HK2.out hgrow2 (fun x h1 h2 => by have := (HO2.out.lt x h1).1; omega); obtain ⟨hz3, hz4⟩ := keepS2 HK3.out hpl id hc0 fz; have HO3 := Lib.hid hown2; clear hown2 hgrow2))
  all_goals
    go_wp2
    go_end0
    obtain ⟨v', h1, h2, h3⟩ := drop_close HR1.out hk (by omega) HK3.out HO3.out
    exact ⟨rfl, v', u1, h1, HK1.out.trans h2, fun x hx => by have := h3 x hx; omega, hu1⟩

end Go.Proofs.Ytdomdjfecnbenaa
