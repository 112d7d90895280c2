/- Reservations: All, Held, Break. -/
import Derived.Test.YtmbgebmhdofdaaaB
set_option linter.unusedVariables false
set_option linter.unusedSimpArgs false
namespace Go.Proofs.Ytmbgebmhdofdaaa
open Go.RowKit Go.Own

theorem ins_small (a : Option Addr) (n c : Nat) (hn : n ≤ 1) (fv : Value) (w : World) : Calls Try.prog 46 #[.slice a n c, .int .i64 0, .int .i64 n, fv] w fun e w' => e = .returned (.tuple #[]) ∧ w = w' := by
  have hn' : (n : Int) ≤ 1 := by omega
  go_enter Try.func46, Try.ntmps46
  go_wp2
  refine wp_loop_once ?_
  go_wp2
  go_end0
  exact ⟨rfl, rfl⟩

set_option maxHeartbeats 400000 in
theorem pdq_small (a : Option Addr) (n c : Nat) (hn : n ≤ 1) (m : Int) (fv : Value) (w : World) : Calls Try.prog 39 #[.slice a n c, .int .i64 0, .int .i64 n, .int .i64 m, fv] w fun e w' => e = .returned (.tuple #[]) ∧ w = w' := by
  have hn' : (n : Int) ≤ 1 := by omega
  go_enter Try.func39, Try.ntmps39
  go_wp2
  refine wp_loop_once ?_
  go_wp2_with (go_at_call 46; go_loud (refine (ins_small a n c hn _ _).mono ?_; rintro e w1 ⟨rfl, rfl⟩))
  exact bodyPost_ret (results_none rfl _ _ _) rfl ⟨rfl, rfl⟩

set_option maxRecDepth 100000 in
set_option maxHeartbeats 1000000 in
theorem len64 (n : Nat) (hn : n ≤ 1) (w : World) : Calls Try.prog 55 #[.int .u64 n] w fun e w' => (∃ m, e = .returned (.int .i64 m)) ∧ w = w' := by
  have hc : n = 0 ∨ n = 1 := by omega
  rcases hc with rfl | rfl
  all_goals
    go_enter Try.func55, Try.ntmps55
    go_wp2
    go_ret
    exact ⟨⟨_, rfl⟩, rfl⟩

set_option maxHeartbeats 400000 in
theorem len0 (n : Nat) (hn : n ≤ 1) (w : World) : Calls Try.prog 40 #[.int .u64 n] w fun e w' => (∃ m, e = .returned (.int .i64 m)) ∧ w = w' := by
  go_enter Try.func40, Try.ntmps40
  go_wp2_with (go_at_call 55; go_loud (refine (len64 n hn _).mono ?_; rintro e w1 ⟨⟨m, rfl⟩, rfl⟩))
  go_ret
  exact ⟨⟨_, rfl⟩, rfl⟩

set_option maxHeartbeats 400000 in
theorem sort_small (a : Option Addr) (n c : Nat) (hn : n ≤ 1) (fv : Value) (w : World) : Calls Try.prog 26 #[.slice a n c, fv] w fun e w' => e = .returned (.tuple #[]) ∧ w = w' := by
  have hn' : (n : Int) ≤ 1 := by omega
  have hw1 : IntKind.u64.wrap (n : Int) = (n : Int) := by
    have hc : n = 0 ∨ n = 1 := by omega
    rcases hc with rfl | rfl <;> decide
  go_enter Try.func26, Try.ntmps26
  go_wp2_with (first | (go_at_call 40; go_loud (refine (len0 n hn _).mono ?_; rintro e w1 ⟨⟨m, rfl⟩, rfl⟩)) | (go_at_call 39; go_loud (refine (pdq_small a n c hn m _ _).mono ?_; rintro e w1 ⟨rfl, rfl⟩)))
  go_end0
  exact ⟨rfl, rfl⟩

set_option maxHeartbeats 400000 in
theorem all_nil (w : World) : Calls Try.prog 10 #[.pointer none] w fun e w' => e = .returned (.slice none 0 0) ∧ w = w' := by
  go_enter Try.func10, Try.ntmps10
  go_wp2
  go_ret
  exact ⟨rfl, rfl⟩

set_option maxHeartbeats 1000000 in
theorem all_any (B p : Nat) (v : Value) (L : List Rv) (hl1 : L.length ≤ 1) (w : World) (hR : RepR w B p v L) :
    Calls Try.prog 10 #[.pointer (some ⟨p, 0, none⟩)] w fun e w' => ∃ v', e = .returned v' ∧ OwnL rvE w' w.heap.size 31 v' L ∧ Keep (fun _ => False) w w' := by
  have hc0 := hR.c0
  have hl := hR.hl
  have hpl := block_lt hR.hp
  go_enter Try.func10, Try.ntmps10
  go_wp2_with (first | (at_builtin; go_loud (refine wpl_app et28 rfl (.tmp 6) (.tmp 10) rfl w.heap.size (.slice (some ⟨w.heap.size, 0, none⟩) 0 0) 0 [] rfl (own_empty_at (heap_alloc_new w _) (Nat.le_refl _)) v L.length (rvE.cs L) rfl (hR.hv.reads.keep (S := fun _ => False) (by (repeat (first | exact Keep.refl _ _ | exact Keep.refl _ _ | refine Keep.drew ?_ | refine Keep.drewN ?_ _ | refine Keep.alloc ?_ _ | refine Keep.setNew ?_ (by omega) _)); done) (fun _ _ _ _ => id)) (rvE.cs_one_cell _) (by unfold maxLen; omega) (by omega) (by simp) ?_; intro v1 w1 hown1 hgrow1; have HO1 : Hid (OwnL rvE w1 w.heap.size 31 v1 L) := (by unfold Hid; rw [Nat.zero_add, List.nil_append] at hown1; exact hown1); have HK1 : Hid (Keep (fun _ => False) w w1) := Keep.grown (by (repeat (first | exact Keep.refl _ _ | exact Keep.refl _ _ | refine Keep.drew ?_ | refine Keep.drewN ?_ _ | refine Keep.alloc ?_ _ | refine Keep.setNew ?_ (by omega) _)); done) hgrow1 (fun x h1 h2 => by simp [Value.ownBlock] at h1; omega); clear hown1 hgrow1; obtain ⟨a1, c1, rfl, -⟩ := HO1.out.slice)) | (go_at_call 26; go_loud (refine (sort_small a1 L.length c1 hl1 _ _).mono ?_; rintro e w2 ⟨rfl, rfl⟩)))
  go_ret
  exact ⟨_, rfl, HO1.out, HK1.out⟩

set_option maxHeartbeats 400000 in
theorem held_nil (w : World) : Calls Try.prog 11 #[.pointer none] w fun e w' => e = .returned (.int .i64 0) ∧ w = w' := by
  go_enter Try.func11, Try.ntmps11
  go_wp2_with (go_at_call 10; refine (all_nil _).mono ?_; rintro e w1 ⟨rfl, rfl⟩)
  refine wp_loop_once ?_
  go_wp2
  go_ret
  exact ⟨rfl, rfl⟩

set_option maxHeartbeats 1000000 in
theorem held_zero (B p : Nat) (v : Value) (w : World) (hR : RepR w B p v []) : Calls Try.prog 11 #[.pointer (some ⟨p, 0, none⟩)] w fun e w' => e = .returned (.int .i64 0) ∧ Keep (fun _ => False) w w' := by
  go_enter Try.func11, Try.ntmps11
  go_wp2_with (go_at_call 10; refine (all_any B p v [] (by simp) _ hR).mono ?_; rintro e w1 ⟨v1, rfl, hO, hk1⟩; obtain ⟨a1, c1, rfl, -⟩ := hO.slice)
  refine wp_loop_once ?_
  go_wp2
  go_ret
  exact ⟨rfl, hk1⟩

set_option maxHeartbeats 1000000 in
theorem held_one (B p : Nat) (v : Value) (x : Rv) (hf : 0 ≤ x.f ∧ x.f < 100000) (hb : x.b < 256) (n : Nat) (hn : (opN x.f x.b 8).length = n) (w : World) (hR : RepR w B p v [x]) : Calls Try.prog 11 #[.pointer (some ⟨p, 0, none⟩)] w fun e w' => e = .returned (.int .i64 n) ∧ Keep (fun _ => False) w w' := by
  have hle := opN_len x.f x.b 8
  have HN := Lib.hid hn
  rw [hn] at hle
  clear hn
  go_enter Try.func11, Try.ntmps11
  go_wp2_with (go_at_call 10; refine (all_any B p v [x] (by simp) _ hR).mono ?_; rintro e w1 ⟨v1, rfl, hO, hk1⟩; have HO := Lib.hid hO; have HK1 := Lib.hid hk1; obtain ⟨g, cap, rfl, hBg, hcap, hgl⟩ := hO.form (by simp); clear hO hk1)
  go_loopw [3, 9] (fun o i wr => ∃ k : Nat, k ≤ 1 ∧ i = .int .i64 k ∧ o = .int .i64 (n * k : Nat) ∧ Keep (fun _ => False) w1 wr) (fun _ i _ => 1 - (intOf i).toNat)
  case atStart => exact ⟨0, by omega, rfl, rfl, Keep.refl _ _⟩
  case round =>
    obtain ⟨k, hk, rfl, rfl, hkeep⟩ := hrel
    have HK := Lib.hid hkeep
    clear hkeep
    have hO2 := Lib.hid (HO.out.keep HK.out (fun _ _ => id))
    obtain ⟨c0, c1, c2, c3⟩ := rv_cells (i := 0) hO2.out (by simp)
    simp only [List.getElem_cons_zero, Nat.zero_mul, Nat.zero_add] at c0 c1 c2 c3
    have hk2 : k = 0 ∨ k = 1 := by omega
    rcases hk2 with rfl | rfl
    · go_wp2_with (go_at_call 29; go_loud (refine (open_any x hf hb _).mono ?_; rintro e w3 ⟨v3, rfl, hO3, hk3⟩; obtain ⟨a3, c3, rfl, -⟩ := hO3.slice; rw [HN.out]; have HK3 : Hid (Keep (fun _ => False) wr w3) := Keep.trans (by (repeat (first | exact Keep.refl _ _ | exact Keep.refl _ _ | refine Keep.drew ?_ | refine Keep.drewN ?_ _ | refine Keep.alloc ?_ _ | refine Keep.setNew ?_ (by omega) _)); done) hk3; clear hO3 hk3))
      go_roundw
      case rel => exact ⟨1, by omega, by go_num, by simp, HK.out.trans HK3.out⟩
      case measure => simp [intOf]
    · rw [Nat.mul_one]
      go_wp2
      go_ret
      exact ⟨rfl, HK1.out.trans HK.out⟩

end Go.Proofs.Ytmbgebmhdofdaaa
