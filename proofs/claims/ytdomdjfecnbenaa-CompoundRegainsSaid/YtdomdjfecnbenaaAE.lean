/- Compounds: the reference splits one; the errors of Make. -/
import Derived.Test.YtdomdjfecnbenaaAD
import Derived.Test.YtdomdjfecnbenaaT
import Derived.Test.YtdomdjfecnbenaaY
set_option linter.unusedVariables false
set_option linter.unusedSimpArgs false
namespace Go.Proofs.Ytdomdjfecnbenaa
open Go.RowKit Go.Own

def SplX (w : World) (B q i : Nat) (X : List On) (T : Int) (hk : i < X.length) (e : Ending) (w' : World) : Prop :=
  ∃ y v', e = .returned (.tuple #[y, .int .i64 0]) ∧ RepX w' B q v' (rmv X i) T ∧ OwnL inE w' w.heap.size 3 y (lostN X[i].f X[i].b 8) ∧ Keep (fun y => y = q) w w' ∧ (∀ y, v'.ownBlock = some y → w.heap.size ≤ y)

set_option maxRecDepth 100000 in
set_option maxHeartbeats 4000000 in
theorem splitX_yes (B q i : Nat) (v : Value) (X : List On) (T f : Int) (w : World) (hB : B ≤ w.heap.size) (hR : RepX w B q v X T) (hn : atX X f = i) (hk : i < X.length) :
    Calls Try.prog 44 #[.pointer (some ⟨q, 0, none⟩), .int .i64 f] w (SplX w B q i X T hk) := by
  have HN := Lib.hid hn
  obtain ⟨g, cap, rfl, hBg, hcap, hgl⟩ := hR.hv.form (by intro e; subst e; simp at hk)
  have hl := hR.hl
  have hi0 : (0 : Int) ≤ i := by omega
  have hfx := hR.hf _ (List.getElem_mem hk)
  have hcx := hR.hc _ (List.getElem_mem hk)
  obtain ⟨d, hd⟩ := Int.eq_ofNat_of_zero_le hfx.1
  have HRR := Lib.hid hR
  have HD := Lib.hid hd
  have hd1 : d ≤ 1016 := by omega
  clear hn hd hR hfx
  unfold SplX
  obtain ⟨b, hb⟩ : ∃ b, X[i].b = b := ⟨_, rfl⟩
  have HB := Lib.hid hb
  rw [hb] at hcx ⊢
  clear hb
  rw [HD.out]
  go_enter Try.func44, Try.ntmps44
  go_wp2_with (go_at_call 17; refine (at_any B q _ X T f _ HRR.out).mono ?_; rw [HN.out]; rintro e w1 ⟨rfl, rfl⟩)
  go_loopw [7, 8] (fun o i2 wr => ∃ k : Nat, k ≤ 8 ∧ i2 = .int .i64 k ∧ ∃ o' : Value, o' = o ∧ OwnL inE wr w.heap.size 3 o' (lostN d b k) ∧ Keep (fun x => w.heap.size ≤ x) w wr) (fun _ i2 _ => 8 - (intOf i2).toNat)
  case atStart => exact ⟨0, by omega, rfl, _, rfl, OwnL.nil _ _ _, Keep.refl _ _⟩
  case round =>
    obtain ⟨k, hk8, rfl, o, ho, hO, hkeep⟩ := hrel
    subst ho
    have HO := Lib.hid hO
    have HK := Lib.hid (hkeep.fresh (fun _ h => h) (Nat.le_refl _))
    have hsz := hkeep.size
    have HR1 := Lib.hid (HRR.out.keep0 HK.out)
    clear hO hkeep
    have hll := lostN_len d b k
    by_cases hlt : k < 8
    · have e3 := HR1.out.c0
      obtain ⟨e0, e1, e2⟩ := on_cells HR1.out.hv hk
      have e4 := bo_cell (HR1.out.hb _ (List.getElem_mem hk)) hlt
      rw [HB.out] at e4
      rw [HD.out] at e0
      have hw : IntKind.i64.wrap ((d : Int) + (k : Int)) = (d : Int) + (k : Int) := IntWalk.i64_in _ (by omega)
      by_cases e : b / 2 ^ k % 2 = 1
      · have hF : Hid (lostN d b (k + 1) = lostN d b k ++ [(d : Int) + k]) := by unfold Hid; show lostN d b k ++ _ = _; rw [if_pos e]
        have e' : (b / 2 ^ k % 2 == 1) = true := by simpa using e
        rw [e'] at e4
        clear e e'
        obtain ⟨ao, co, rfl, -⟩ := HO.out.slice
        go_wp2_with (at_builtin; (refine wpl_app et46 rfl (.tmp 29) (.tmp 40) rfl w.heap.size _ _ _ rfl (HO.out.keep (S := fun _ => False) (by (repeat (first | exact Keep.refl _ _ | exact Keep.refl _ _ | refine Keep.drew ?_ | refine Keep.drewN ?_ _ | refine Keep.alloc ?_ _ | refine Keep.setNew ?_ (by omega) _)); done) (fun _ _ => id)) (.slice (some ⟨wr.heap.size, 0, none⟩) 1 1) 1 [.int .i64 ((d : Int) + (k : Int))] (by first | rfl | simp [Act.eval]) (Reads.new (heap_alloc_new wr _) rfl 1) (by simp [Value.oneCell']) (by unfold maxLen; omega) (by omega) (by simp; omega) ?_; intro v1 w1 hown1 hgrow1; have HK1 : Hid (Keep (fun x => w.heap.size ≤ x) w w1) := Keep.grown (by (repeat (first | exact HK.out.mono (fun _ _ h => h.elim) | exact Keep.refl _ _ | refine Keep.drew ?_ | refine Keep.drewN ?_ _ | refine Keep.alloc ?_ _ | refine Keep.setNew ?_ (by omega) _)); done) hgrow1 (fun x h1 h2 => by have := (HO.out.lt x h1).1; omega); have HO1 : Hid (OwnL inE w1 w.heap.size 3 v1 (lostN d b (k + 1))) := (by unfold Hid; rw [hF.out]; unfold OwnL; rw [List.length_append, inE.cs_append, inE.cs_one]; exact hown1); clear hown1 hgrow1))
        go_roundw
        case rel => exact ⟨k + 1, by omega, by go_num, _, rfl, HO1.out, HK1.out⟩
        case measure => simp [intOf]; omega
      · have hF : Hid (lostN d b (k + 1) = lostN d b k) := by unfold Hid; show lostN d b k ++ _ = _; rw [if_neg e]; simp
        have e' : (b / 2 ^ k % 2 == 1) = false := by simpa using e
        rw [e'] at e4
        clear e e'
        go_wp2
        go_roundw
        case rel => exact ⟨k + 1, by omega, by go_num, _, rfl, by rw [hF.out]; exact HO.out, HK.out.mono (fun _ _ h => h.elim)⟩
        case measure => simp [intOf]; omega
    · obtain rfl : k = 8 := by omega
      go_wp2_with (go_at_call 48; (refine (dropX_any B q i _ X T _ (by omega) HR1.out hk).mono ?_; rintro e w4 ⟨rfl, v4, hR4, hk4, hf4⟩; have HR4 := Lib.hid hR4; have HK4 := Lib.hid hk4; have HF4 := Lib.hid hf4; clear hR4 hk4 hf4))
      go_ret2
      exact ⟨o, v4, rfl, HR4.out, HO.out.keep HK4.out (fun x hx e => by have := (HO.out.lt x hx).1; have := block_lt HRR.out.hp; omega), (HK.out.mono (fun _ _ h => h.elim)).trans HK4.out, fun y hy => by have := HF4.out y hy; omega⟩

/-! ### Make's errors -/
set_option maxHeartbeats 1000000 in
theorem make_range (p : Nat) (f : Int) (h : f < 0 ∨ 1016 < f) (w : World) : Calls Try.prog 10 #[.pointer (some ⟨p, 0, none⟩), .int .i64 f] w fun e w' => e = .returned (.int .i64 3) ∧ w = w' := by
  by_cases h0 : f < 0
  · go_enter Try.func10, Try.ntmps10
    go_wp2
    go_ret
    exact ⟨rfl, rfl⟩
  · have h1 : 1016 < f := by omega
    go_enter Try.func10, Try.ntmps10
    go_wp2
    go_ret
    exact ⟨rfl, rfl⟩
set_option maxHeartbeats 1000000 in
theorem make_align (p : Nat) (x : Nat) (hx : x ≤ 1016) (h8 : x / 8 * 8 ≠ x) (w : World) : Calls Try.prog 10 #[.pointer (some ⟨p, 0, none⟩), .int .i64 x] w fun e w' => e = .returned (.int .i64 4) ∧ w = w' := by
  have he : decide (x / 8 * 8 = x) = false := by simpa using h8
  clear h8
  go_enter Try.func10, Try.ntmps10
  go_wp2_with (go_at_call 25; refine (even_any x (by omega) _).mono ?_; rw [he]; rintro e w1 ⟨rfl, rfl⟩)
  go_ret
  exact ⟨rfl, rfl⟩
set_option maxHeartbeats 1000000 in
theorem make_exist (B p : Nat) (v u : Value) (L : List Cp) (Q : List Int) (x k : Nat) (hx : x ≤ 1016) (h8 : x / 8 * 8 = x) (hn : whI L ((x / 8 * 8 : Nat) : Int) = k) (w : World) (hR : RepC w B p v u L Q) :
    Calls Try.prog 10 #[.pointer (some ⟨p, 0, none⟩), .int .i64 x] w fun e w' => e = .returned (.int .i64 7) ∧ Keep (fun _ => False) w w' := by
  have he : decide (x / 8 * 8 = x) = true := by simpa using h8
  have HN := Lib.hid hn
  clear h8 hn
  go_enter Try.func10, Try.ntmps10
  go_wp2_with (first | (go_at_call 25; refine (even_any x (by omega) _).mono ?_; rw [he]; rintro e w1 ⟨rfl, rfl⟩) | (go_at_call 26; refine (where_any B p v u L Q x (by omega) _ hR).mono ?_; rw [HN.out]; rintro e w2 ⟨rfl, hk2⟩))
  go_ret
  exact ⟨rfl, hk2⟩

end Go.Proofs.Ytdomdjfecnbenaa
