/- Buddy: holder, Has, wrong, Free, Greatest. -/
import Derived.Test.YtnjcchgbkemekaaG
set_option linter.unusedVariables false
set_option linter.unusedSimpArgs false
namespace Go.Proofs.Ytnjcchgbkemekaa
open Go.RowKit Go.Own

theorem anot_pow : ∀ o : Fin 9, ∀ f : Fin 1024, bits .andNot .i64 (f.val : Int) (((2 ^ o.val : Nat) : Int) - 1) = ((f.val / 2 ^ o.val * 2 ^ o.val : Nat) : Int) := by decide +kernel
theorem and_pow : ∀ o : Fin 9, ∀ f : Fin 1024, bits .and .i64 (f.val : Int) (((2 ^ o.val : Nat) : Int) - 1) = ((f.val % 2 ^ o.val : Nat) : Int) := by decide +kernel
theorem p_sub (P : Nat) (h : 1 ≤ P ∧ P ≤ 256) : IntKind.i64.wrap ((P : Int) - 1) = (P : Int) - 1 ∧ wrap64 ((P : Int) - 1) = (P : Int) - 1 := ⟨IntWalk.i64_in _ (by omega), IntWalk.wrap64_in _ (by omega)⟩
/-- 1 << k, less 1, and what and-not and and make of it. -/
theorem bits_k (k f : Nat) (hk : k ≤ 8) (hf : f < 1024) : ∃ P : Nat, P = 2 ^ k ∧ wrap64 ((2 : Int) ^ k) = (P : Int) ∧ IntKind.i64.wrap ((2 : Int) ^ k) = (P : Int) ∧ (1 ≤ P ∧ P ≤ 256) ∧ IntKind.i64.wrap ((P : Int) - 1) = (P : Int) - 1 ∧ wrap64 ((P : Int) - 1) = (P : Int) - 1 ∧
    bits .andNot .i64 (f : Int) ((P : Int) - 1) = ((dn k f : Nat) : Int) ∧ bits .and .i64 (f : Int) ((P : Int) - 1) = ((f % P : Nat) : Int) := by
  obtain ⟨e1, e2⟩ := pw_w k hk
  have h1 := pw k hk
  obtain ⟨s1, s2⟩ := p_sub (2 ^ k) h1
  exact ⟨2 ^ k, rfl, e1, e2, h1, s1, s2, anot_pow ⟨k, by omega⟩ ⟨f, hf⟩, and_pow ⟨k, by omega⟩ ⟨f, hf⟩⟩

/-- The result's box is the call's own. -/
theorem keep_two {w w5 : World} {n4 : Nat} {u v : Value} (hn : w.heap.size = n4) (K : Keep (fun _ => False) w w5) : Keep (fun _ => False) w ((w5.setCell ⟨n4, 0, none⟩ u).setCell ⟨n4, 1, none⟩ v) :=
  (K.setCell (fun h => absurd h (by simp only; omega)) u).setCell (fun h => absurd h (by simp only; omega)) v
theorem two_cells {w5 : World} {n4 e : Nat} {a b u v : Value} (h : w5.heap[n4]? = some (.cells #[a, b] e (0, 0))) : ((w5.setCell ⟨n4, 0, none⟩ u).setCell ⟨n4, 1, none⟩ v).cell? ⟨n4, 0, none⟩ = some u ∧ ((w5.setCell ⟨n4, 0, none⟩ u).setCell ⟨n4, 1, none⟩ v).cell? ⟨n4, 1, none⟩ = some v := by
  have h2 := heap_setCell_eq (i := 1) (u := v) (heap_setCell_eq (i := 0) (u := u) h)
  simp [cell_block h2]
/-- What holder answers. -/
def HoldC (F : Nat → Bool) (f : Nat) (w : World) (e : Ending) (w' : World) : Prop :=
  ((∃ k, mx F k (dn k f) ∧ e = .returned (.tuple #[.agg #[.int .i64 (dn k f : Nat), .int .i64 (k : Nat)], .bool true])) ∨ (F f = false ∧ e = .returned (.tuple #[.agg #[.int .i64 0, .int .i64 0], .bool false]))) ∧ Keep (fun _ => False) w w'

set_option maxRecDepth 100000 in
set_option maxHeartbeats 2000000 in
theorem holder_any {w : World} {B p n f : Nat} {S : Nat → Nat → Bool} {F : Nat → Bool} {fr : Int} {G : Nat → Prop} (h : BS w B p n S fr G) (hR : Rp S F) (hf : f < n) :
    Calls Try.prog 50 #[.pointer (some ⟨p, 0, none⟩), .int .i64 (f : Int)] w (HoldC F f w) := by
  have hn : n ≤ 1024 := by obtain ⟨V, h1, _⟩ := h; exact h1.hn
  have HB := Lib.hid h
  have HR := Lib.hid hR
  clear h hR
  have KA : Hid (Keep (fun _ => False) w (w.alloc (.cells #[.int .i64 0, .int .i64 0] 49))) := (Keep.refl _ _).alloc _
  have HBA := Lib.hid (heap_alloc_new w (.cells #[.int .i64 0, .int .i64 0] 49))
  go_enter Try.func50, Try.ntmps50
  go_wp2
  generalize hw1 : w.alloc (.cells #[.int .i64 0, .int .i64 0] 49) = w1 at KA HBA ⊢
  obtain ⟨n4, hn4⟩ : ∃ n4, w.heap.size = n4 := ⟨_, rfl⟩
  have HN4 := Lib.hid hn4
  rw [hn4] at HBA ⊢
  clear hw1 hn4
  go_loopw [10] (fun i wr => ∃ k : Nat, k ≤ 9 ∧ i = .int .i64 k ∧ (∀ j, j < k → ¬ mx F j (dn j f)) ∧ Keep (fun _ => False) w1 wr) (fun i _ => 9 - (intOf i).toNat)
  case atStart => exact ⟨0, by omega, rfl, fun j hj => by omega, Keep.refl _ _⟩
  case round =>
    obtain ⟨k, hk, rfl, hno, hkeep⟩ := hrel
    have HNO := Lib.hid hno
    have HK := Lib.hid hkeep
    have HK0 := Lib.hid (KA.out.trans hkeep)
    have b4 := (hkeep.block n4 (block_lt HBA.out) id).trans HBA.out
    clear hno hkeep
    by_cases hlt : k < 9
    · obtain ⟨P, hP, e1, e2, hpb, s1, s2, hb, -⟩ := bits_k k f (by omega) (by omega)
      obtain ⟨V, hV, hGV⟩ := HB.out.keep0 HK0.out
      have HPL := Lib.hid (fun W (K : Keep (fun _ => False) wr W) => place_any ((dn k f : Nat) : Int) (hV.keep0 K) (k := k) (by omega))
      have hct : (li S n k).contains ((dn k f : Nat) : Int) = S k (dn k f) := by
        rw [li_contains, decide_eq_true (by have := dn_le k f; omega)]; rfl
      rw [hct] at HPL
      have hS := HR.out k (dn k f) (by omega)
      have HS := Lib.hid hS
      obtain ⟨d, hd⟩ : ∃ d, dn k f = d := ⟨_, rfl⟩
      have HD := Lib.hid hd
      rw [hd] at HPL HS hb
      have hkz : (0 : Int) ≤ (k : Int) := Int.natCast_nonneg k
      have hk9 : (k : Int) < 9 := by omega
      have HB4 := Lib.hid b4
      have f0 : wr.frozen? ⟨n4, 0, none⟩ = false := frozen_block b4
      have f1 : wr.frozen? ⟨n4, 1, none⟩ = false := frozen_block b4
      have c0 : wr.cell? ⟨n4, 0, none⟩ = some (.int .i64 0) := by simp [cell_block b4]
      have c1 : wr.cell? ⟨n4, 1, none⟩ = some (.int .i64 0) := by simp [cell_block b4]
      clear hV hGV hct hS hd hP hpb b4
      cases hSk : S k d with
      | true =>
        rw [hSk] at HPL HS
        have HMX : Hid (mx F k d) := HS.out.mp rfl
        clear hSk HS
        go_wp2_with (go_at_call 54; refine (HPL.out _ (by (repeat (first | exact Keep.refl _ _ | exact Keep.refl _ _ | refine Keep.drew ?_ | refine Keep.drewN ?_ _ | refine Keep.alloc ?_ _ | refine Keep.setNew ?_ (by omega) _)); done)).mono ?_; rintro e w5 ⟨rfl, hk5⟩; have HK5 := Lib.hid hk5; have B5 := Lib.hid ((hk5.block n4 (block_lt HB4.out) id).trans HB4.out); have f50 : w5.frozen? ⟨n4, 0, none⟩ = false := frozen_block B5.out; have f51 : w5.frozen? ⟨n4, 1, none⟩ = false := frozen_block B5.out; have c50 : w5.cell? ⟨n4, 0, none⟩ = some (.int .i64 0) := (by simp [cell_block B5.out]); have c51 : w5.cell? ⟨n4, 1, none⟩ = some (.int .i64 0) := (by simp [cell_block B5.out]); clear hk5 c0 c1 f0 f1)
        refine bodyPost_ret (v := .tuple #[.agg #[.int .i64 (d : Int), .int .i64 (k : Int)], .bool true]) ?_ rfl ⟨.inl ⟨k, by rw [HD.out]; exact HMX.out, by rw [HD.out]⟩, ?_⟩
        · obtain ⟨q1, q2⟩ := two_cells (u := .int .i64 (d : Int)) (v := .int .i64 (k : Int)) B5.out
          simp [results, Try.results50, go_sem, q1, q2]
        · exact keep_two HN4.out (HK0.out.trans HK5.out)
      | false =>
        rw [hSk] at HPL HS
        have HMX : Hid (¬ mx F k d) := fun h => by have := HS.out.mpr h; cases this
        clear hSk HS c0 c1 f0 f1
        go_wp2_with (go_at_call 54; refine (HPL.out _ (by (repeat (first | exact Keep.refl _ _ | exact Keep.refl _ _ | refine Keep.drew ?_ | refine Keep.drewN ?_ _ | refine Keep.alloc ?_ _ | refine Keep.setNew ?_ (by omega) _)); done)).mono ?_; rintro e w5 ⟨rfl, hk5⟩; have HK5 := Lib.hid hk5; clear hk5)
        go_roundw
        case rel => exact ⟨k + 1, by omega, by go_num, fun j hj => (by
          by_cases e : j = k
          · subst e; rw [HD.out]; exact HMX.out
          · exact HNO.out j (by omega)), HK.out.trans HK5.out⟩
        case measure => simp [intOf]; omega
    · obtain rfl : k = 9 := by omega
      have HFF : Hid (F f = false) := by
        unfold Hid
        rw [← Bool.not_eq_true]
        intro hx
        obtain ⟨j, hj⟩ := mx_of hx
        exact HNO.out j (by have := hj.1; omega) hj
      have f0 : wr.frozen? ⟨n4, 0, none⟩ = false := frozen_block b4
      have f1 : wr.frozen? ⟨n4, 1, none⟩ = false := frozen_block b4
      have c0 : wr.cell? ⟨n4, 0, none⟩ = some (.int .i64 0) := by simp [cell_block b4]
      have c1 : wr.cell? ⟨n4, 1, none⟩ = some (.int .i64 0) := by simp [cell_block b4]
      have B4 := Lib.hid b4
      clear b4
      go_wp2
      refine bodyPost_ret (v := .tuple #[.agg #[.int .i64 0, .int .i64 0], .bool false]) ?_ rfl ⟨.inr ⟨HFF.out, rfl⟩, ?_⟩
      · obtain ⟨q1, q2⟩ := two_cells (u := .int .i64 0) (v := .int .i64 0) B4.out
        simp [results, Try.results50, go_sem, q1, q2]
      · exact keep_two HN4.out HK0.out

theorem holder_yes {w : World} {B p n f : Nat} {S : Nat → Nat → Bool} {F : Nat → Bool} {fr : Int} {G : Nat → Prop} (h : BS w B p n S fr G) (hR : Rp S F) (hf : f < n) (hF : F f = true) :
    Calls Try.prog 50 #[.pointer (some ⟨p, 0, none⟩), .int .i64 (f : Int)] w fun e w' => ∃ k, mx F k (dn k f) ∧ e = .returned (.tuple #[.agg #[.int .i64 (dn k f : Nat), .int .i64 (k : Nat)], .bool true]) ∧ Keep (fun _ => False) w w' := by
  refine (holder_any h hR hf).mono ?_
  rintro e w' ⟨⟨k, h1, rfl⟩ | ⟨h1, rfl⟩, h2⟩
  · exact ⟨k, h1, rfl, h2⟩
  · rw [hF] at h1; cases h1
theorem holder_no {w : World} {B p n f : Nat} {S : Nat → Nat → Bool} {F : Nat → Bool} {fr : Int} {G : Nat → Prop} (h : BS w B p n S fr G) (hR : Rp S F) (hf : f < n) (hF : F f = false) :
    Calls Try.prog 50 #[.pointer (some ⟨p, 0, none⟩), .int .i64 (f : Int)] w fun e w' => e = .returned (.tuple #[.agg #[.int .i64 0, .int .i64 0], .bool false]) ∧ Keep (fun _ => False) w w' := by
  refine (holder_any h hR hf).mono ?_
  rintro e w' ⟨⟨k, h1, rfl⟩ | ⟨h1, rfl⟩, h2⟩
  · have h3 : F f = true := h1.2.2.1 f (dn_le k f) (dn_lt k f)
    rw [hF] at h3; cases h3
  · exact ⟨rfl, h2⟩

set_option maxHeartbeats 1000000 in
theorem has_in {w : World} {B p n f : Nat} {S : Nat → Nat → Bool} {F : Nat → Bool} {fr : Int} {G : Nat → Prop} (h : BS w B p n S fr G) (hR : Rp S F) (hf : f < n) :
    Calls Try.prog 41 #[.pointer (some ⟨p, 0, none⟩), .int .i64 (f : Int)] w fun e w' => e = .returned (.bool (F f)) ∧ Keep (fun _ => False) w w' := by
  have c0 : w.cell? ⟨p, 0, none⟩ = some (.int .i64 (n : Int)) := by obtain ⟨V, h1, _⟩ := h; exact h1.c0
  have hfz : (0 : Int) ≤ (f : Int) := Int.natCast_nonneg f
  have hfn : (f : Int) < (n : Int) := by omega
  cases hF : F f with
  | true =>
    have HH := Lib.hid (fun W (K : Keep (fun _ => False) w W) => holder_yes (h.keep0 K) hR hf hF)
    clear h hR hF
    go_enter Try.func41, Try.ntmps41
    go_wp2_with (go_at_call 50; refine (HH.out _ (by (repeat (first | exact Keep.refl _ _ | exact Keep.refl _ _ | refine Keep.drew ?_ | refine Keep.drewN ?_ _ | refine Keep.alloc ?_ _ | refine Keep.setNew ?_ (by omega) _)); done)).mono ?_; rintro e w1 ⟨k, -, rfl, hk1⟩; have HK1 : Hid (Keep (fun _ => False) w w1) := Keep.trans (by (repeat (first | exact Keep.refl _ _ | exact Keep.refl _ _ | refine Keep.drew ?_ | refine Keep.drewN ?_ _ | refine Keep.alloc ?_ _ | refine Keep.setNew ?_ (by omega) _)); done) hk1; clear hk1)
    go_ret
    exact ⟨rfl, (by (repeat (first | exact HK1.out | exact Keep.refl _ _ | refine Keep.drew ?_ | refine Keep.drewN ?_ _ | refine Keep.alloc ?_ _ | refine Keep.setNew ?_ (by omega) _)); done)⟩
  | false =>
    have HH := Lib.hid (fun W (K : Keep (fun _ => False) w W) => holder_no (h.keep0 K) hR hf hF)
    clear h hR hF
    go_enter Try.func41, Try.ntmps41
    go_wp2_with (go_at_call 50; refine (HH.out _ (by (repeat (first | exact Keep.refl _ _ | exact Keep.refl _ _ | refine Keep.drew ?_ | refine Keep.drewN ?_ _ | refine Keep.alloc ?_ _ | refine Keep.setNew ?_ (by omega) _)); done)).mono ?_; rintro e w1 ⟨rfl, hk1⟩; have HK1 : Hid (Keep (fun _ => False) w w1) := Keep.trans (by (repeat (first | exact Keep.refl _ _ | exact Keep.refl _ _ | refine Keep.drew ?_ | refine Keep.drewN ?_ _ | refine Keep.alloc ?_ _ | refine Keep.setNew ?_ (by omega) _)); done) hk1; clear hk1)
    go_ret
    exact ⟨rfl, (by (repeat (first | exact HK1.out | exact Keep.refl _ _ | refine Keep.drew ?_ | refine Keep.drewN ?_ _ | refine Keep.alloc ?_ _ | refine Keep.setNew ?_ (by omega) _)); done)⟩
set_option maxHeartbeats 1000000 in
theorem has_out {w : World} {B p n : Nat} {S : Nat → Nat → Bool} {fr : Int} {G : Nat → Prop} (f : Int) (h : BS w B p n S fr G) (hf : f < 0 ∨ (n : Int) ≤ f) :
    Calls Try.prog 41 #[.pointer (some ⟨p, 0, none⟩), .int .i64 f] w fun e w' => e = .returned (.bool false) ∧ Keep (fun _ => False) w w' := by
  have c0 : w.cell? ⟨p, 0, none⟩ = some (.int .i64 (n : Int)) := by obtain ⟨V, h1, _⟩ := h; exact h1.c0
  clear h
  by_cases h0 : f < 0
  · clear hf
    go_enter Try.func41, Try.ntmps41
    go_wp2
    go_ret
    exact ⟨rfl, (by (repeat (first | exact Keep.refl _ _ | exact Keep.refl _ _ | refine Keep.drew ?_ | refine Keep.drewN ?_ _ | refine Keep.alloc ?_ _ | refine Keep.setNew ?_ (by omega) _)); done)⟩
  · have h1 : (n : Int) ≤ f := by omega
    clear hf
    go_enter Try.func41, Try.ntmps41
    go_wp2
    go_ret
    exact ⟨rfl, (by (repeat (first | exact Keep.refl _ _ | exact Keep.refl _ _ | refine Keep.drew ?_ | refine Keep.drewN ?_ _ | refine Keep.alloc ?_ _ | refine Keep.setNew ?_ (by omega) _)); done)⟩
set_option maxHeartbeats 400000 in
theorem has_nil (f : Int) (w : World) : Calls Try.prog 41 #[.pointer none, .int .i64 f] w fun e w' => e = .returned (.bool false) ∧ Keep (fun _ => False) w w' := by
  go_enter Try.func41, Try.ntmps41
  go_wp2
  go_ret
  exact ⟨rfl, (by (repeat (first | exact Keep.refl _ _ | exact Keep.refl _ _ | refine Keep.drew ?_ | refine Keep.drewN ?_ _ | refine Keep.alloc ?_ _ | refine Keep.setNew ?_ (by omega) _)); done)⟩
set_option maxHeartbeats 400000 in
theorem free_any {w : World} {B p n : Nat} {S : Nat → Nat → Bool} {fr : Int} {G : Nat → Prop} (h : BS w B p n S fr G) :
    Calls Try.prog 39 #[.pointer (some ⟨p, 0, none⟩)] w fun e w' => e = .returned (.int .i64 fr) ∧ Keep (fun _ => False) w w' := by
  have c0 : w.cell? ⟨p, 10, none⟩ = some (.int .i64 fr) := by obtain ⟨V, h1, _⟩ := h; exact h1.c10
  go_enter Try.func39, Try.ntmps39
  go_wp2
  go_ret
  exact ⟨rfl, (by (repeat (first | exact Keep.refl _ _ | exact Keep.refl _ _ | refine Keep.drew ?_ | refine Keep.drewN ?_ _ | refine Keep.alloc ?_ _ | refine Keep.setNew ?_ (by omega) _)); done)⟩
set_option maxHeartbeats 400000 in
theorem free_nil (w : World) : Calls Try.prog 39 #[.pointer none] w fun e w' => e = .returned (.int .i64 0) ∧ Keep (fun _ => False) w w' := by
  go_enter Try.func39, Try.ntmps39
  go_wp2
  go_ret
  exact ⟨rfl, (by (repeat (first | exact Keep.refl _ _ | exact Keep.refl _ _ | refine Keep.drew ?_ | refine Keep.drewN ?_ _ | refine Keep.alloc ?_ _ | refine Keep.setNew ?_ (by omega) _)); done)⟩

end Go.Proofs.Ytnjcchgbkemekaa
