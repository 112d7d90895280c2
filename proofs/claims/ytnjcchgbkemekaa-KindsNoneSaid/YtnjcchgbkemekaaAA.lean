/- Buddy: the reference: Change. -/
import Derived.Test.YtnjcchgbkemekaaZ
set_option linter.unusedVariables false
set_option linter.unusedSimpArgs false
namespace Go.Proofs.Ytnjcchgbkemekaa
open Go.RowKit Go.Own

theorem tmod_run (f : Int) (P : Nat) (h : 1 ≤ P ∧ P ≤ 256) (r : Int) (hr : Int.tmod f P = r) (W : World) : Sem.run Try.prog (binOp .rem 3 (.int .i64 f) (.int .i64 (P : Int))) W = Result.ok (.int .i64 r) W := by
  have a7 : ¬ ((P : Int) = 0) := by omega
  have a8 : ¬ (P = 0) := by omega
  have hb : r.natAbs < P := by rw [← hr, Int.natAbs_tmod]; exact Nat.mod_lt _ (by simp; omega)
  have a9 : IntKind.i64.wrap r = r := IntWalk.i64_in _ (by omega)
  have a10 : wrap64 r = r := IntWalk.wrap64_in _ (by omega)
  go_simp
theorem tmod_zero (f : Int) (P : Nat) : Int.tmod f P = 0 ↔ f % (P : Int) = 0 :=
  ⟨fun h => Int.emod_eq_zero_of_dvd (Int.dvd_of_tmod_eq_zero h), fun h => Int.tmod_eq_zero_of_dvd (Int.dvd_of_emod_eq_zero h)⟩

/-- What Change does. -/
def ChC (w : World) (x g n : Nat) (F : Nat → Bool) (f o : Int) (b : Bool) (e : Ending) (w' : World) : Prop :=
  (wrE n f o ≠ 0 ∧ e = .returned (.int .i64 (wrE n f o)) ∧ Keep (fun _ => False) w w') ∨
  (wrE n f o = 0 ∧ ∃ f' o' : Nat, f = f' ∧ o = o' ∧ o' ≤ 8 ∧ f' % 2 ^ o' = 0 ∧ f' + 2 ^ o' ≤ n ∧
    ((¬ allB F n f' (2 ^ o') (!b) ∧ e = .returned (.int .i64 12) ∧ Keep (fun _ => False) w w') ∨
     (allB F n f' (2 ^ o') (!b) ∧ e = .returned (.int .i64 0) ∧ RX w' x g n (putB F o' f' b) ∧ Keep (fun z => z = g) w w')))
theorem chC_wr {w w' : World} {x g n : Nat} {F : Nat → Bool} {f o : Int} {b : Bool} {z : Int} (h : wrE n f o = z) (hz : z ≠ 0) (k : Keep (fun _ => False) w w') : ChC w x g n F f o b (.returned (.int .i64 z)) w' :=
  .inl ⟨by rw [h]; exact hz, by rw [h], k⟩

set_option maxRecDepth 100000 in
set_option maxHeartbeats 1000000 in
theorem rchange_any {w : World} {x g n : Nat} {F : Nat → Bool} (f o : Int) (b : Bool) (h : RX w x g n F) (hn : n ≤ 1024) (hf : -9223372036854775808 ≤ f ∧ f ≤ 9223372036854775807) :
    Calls Try.prog 32 #[.pointer (some ⟨x, 0, none⟩), .int .i64 f, .int .i64 o, .bool b] w (ChC w x g n F f o b) := by
  by_cases h0 : o < 0
  · have HE : Hid (wrE n f o = 2) := by unfold Hid wrE; rw [if_pos (.inl h0)]
    clear h
    go_enter Try.func32, Try.ntmps32
    go_wp2
    go_ret
    exact chC_wr HE.out (by decide) (by (repeat (first | exact Keep.refl _ _ | exact Keep.refl _ _ | refine Keep.drew ?_ | refine Keep.drewN ?_ _ | refine Keep.alloc ?_ _ | refine Keep.setNew ?_ (by omega) _)); done)
  by_cases h8 : 8 < o
  · have HE : Hid (wrE n f o = 2) := by unfold Hid wrE; rw [if_pos (.inr (.inl h8))]
    clear h
    go_enter Try.func32, Try.ntmps32
    go_wp2
    go_ret
    exact chC_wr HE.out (by decide) (by (repeat (first | exact Keep.refl _ _ | exact Keep.refl _ _ | refine Keep.drew ?_ | refine Keep.drewN ?_ _ | refine Keep.alloc ?_ _ | refine Keep.setNew ?_ (by omega) _)); done)
  obtain ⟨k, rfl⟩ := Int.eq_ofNat_of_zero_le (show 0 ≤ o by omega)
  have hk : k ≤ 8 := by omega
  obtain ⟨P, hP⟩ : ∃ P, 2 ^ k = P := ⟨_, rfl⟩
  have HSZ : Hid (∀ W, Calls Try.prog 14 #[.int .i64 (k : Int)] W fun e w' => e = .returned (.int .i64 (P : Int)) ∧ w' = W) := fun W => by
    rw [← hP, show ((2 ^ k : Nat) : Int) = (2 : Int) ^ k by simp]; exact size_any k hk W
  have hP1 : 1 ≤ P ∧ P ≤ 256 := by
    rw [← hP]
    exact ⟨p2 k, by have := Nat.pow_le_pow_right (n := 2) (by decide) hk; omega⟩
  have hw : wrE n f (k : Int) = if f % (P : Int) ≠ 0 then 2 else if f < 0 ∨ (n : Int) ≤ f ∨ (n : Int) - f < (P : Int) then 3 else 0 := by
    unfold wrE
    rw [Int.toNat_natCast, hP]
    by_cases h1 : f % (P : Int) ≠ 0
    · rw [if_pos (.inr (.inr h1)), if_pos h1]
    · rw [if_neg (by intro h; rcases h with h | h | h; exact h0 h; exact h8 h; exact h1 h), if_neg h1]
  obtain ⟨r, hr⟩ : ∃ r, Int.tmod f P = r := ⟨_, rfl⟩
  have hrun := tmod_run f P hP1 r hr
  have HR := Lib.hid h
  have HPP := Lib.hid hP1
  have HPK := Lib.hid hP
  have HKK := Lib.hid hk
  have c0 := h.c0
  have hz := tmod_zero f P
  rw [hr] at hz
  have hb : r.natAbs < P := by rw [← hr, Int.natAbs_tmod]; exact Nat.mod_lt _ (by simp; omega)
  have a9 : IntKind.i64.wrap r = r := IntWalk.i64_in _ (by omega)
  have a10 : wrap64 r = r := IntWalk.wrap64_in _ (by omega)
  have z1 : ¬ ((P : Int) = 0) := by omega
  have z2 : ¬ (P = 0) := by omega
  have RA : Hid (∀ W (K : Keep (fun _ => False) w W) (f' : Nat), f = f' → f' ≤ 5000 → Calls Try.prog 45 #[.pointer (some ⟨x, 0, none⟩), .int .i64 f, .int .i64 (k : Int), .bool (!b)] W fun e w' => w' = W ∧ ((allB F n f' P (!b) ∧ e = .returned (.bool true)) ∨ (¬ allB F n f' P (!b) ∧ e = .returned (.bool false)))) := fun W K f' e hle => by
    rw [e, ← hP]
    exact rall_any (!b) (h.keep K id id) hn hk hle
  have RS : Hid (∀ W (K : Keep (fun _ => False) w W) (f' : Nat), f = f' → f' + P ≤ n → Calls Try.prog 46 #[.pointer (some ⟨x, 0, none⟩), .int .i64 f, .int .i64 (k : Int), .bool b] W fun e w' => e = .returned (.tuple #[]) ∧ RX w' x g n (putB F k f' b) ∧ Keep (fun z => z = g) W w') := fun W K f' e hle => by
    rw [e]
    exact rset_any b (h.keep K id id) hn hk (by rw [hP]; exact hle)
  clear hP h hb
  by_cases hr0 : r = 0
  · subst hr0
    have hz2 := hz.mp rfl
    rw [if_neg (fun h => h hz2)] at hw
    by_cases hf0 : f < 0
    · rw [if_pos (.inl hf0)] at hw
      have HW := Lib.hid hw
      clear hw hz hz2 hP1 hk
      go_enter Try.func32, Try.ntmps32
      go_wp2_with (go_at_call 14; refine (HSZ.out _).mono ?_; rintro e w6 ⟨rfl, rfl⟩)
      go_quiet ((go_at_call 14; exact Calls.quiet_of_same (HSZ.out _)))
      go_wp2
      go_ret
      exact chC_wr HW.out (by decide) (by (repeat (first | exact Keep.refl _ _ | exact Keep.refl _ _ | refine Keep.drew ?_ | refine Keep.drewN ?_ _ | refine Keep.alloc ?_ _ | refine Keep.setNew ?_ (by omega) _)); done)
    · have b0 : decide (f < 0) = false := decide_eq_false hf0
      by_cases hfn : (n : Int) ≤ f
      · have b1 : decide ((n : Int) ≤ f) = true := decide_eq_true hfn
        rw [if_pos (.inr (.inl hfn))] at hw
        have HW := Lib.hid hw
        clear hw hz hz2 hP1 hk
        go_enter Try.func32, Try.ntmps32
        go_wp2_with (go_at_call 14; refine (HSZ.out _).mono ?_; rintro e w6 ⟨rfl, rfl⟩)
        go_quiet ((go_at_call 14; exact Calls.quiet_of_same (HSZ.out _)))
        go_wp2
        go_ret
        exact chC_wr HW.out (by decide) (by (repeat (first | exact Keep.refl _ _ | exact Keep.refl _ _ | refine Keep.drew ?_ | refine Keep.drewN ?_ _ | refine Keep.alloc ?_ _ | refine Keep.setNew ?_ (by omega) _)); done)
      · obtain ⟨f', hf'⟩ := Int.eq_ofNat_of_zero_le (show 0 ≤ f by omega)
        have hsub : IntKind.i64.wrap ((n : Int) - f) = (n : Int) - f := IntWalk.i64_in _ (by omega)
        have b1 : decide ((n : Int) ≤ f) = false := decide_eq_false hfn
        by_cases hfp : (n : Int) - f < (P : Int)
        · have b2 : decide ((n : Int) - f < (P : Int)) = true := decide_eq_true hfp
          rw [if_pos (.inr (.inr hfp))] at hw
          have HW := Lib.hid hw
          clear hw hz hz2 hP1 hk hf'
          go_enter Try.func32, Try.ntmps32
          go_wp2_with (go_at_call 14; refine (HSZ.out _).mono ?_; rintro e w6 ⟨rfl, rfl⟩)
          go_quiet ((go_at_call 14; exact Calls.quiet_of_same (HSZ.out _)))
          go_wp2
          go_ret
          exact chC_wr HW.out (by decide) (by (repeat (first | exact Keep.refl _ _ | exact Keep.refl _ _ | refine Keep.drew ?_ | refine Keep.drewN ?_ _ | refine Keep.alloc ?_ _ | refine Keep.setNew ?_ (by omega) _)); done)
        · rw [if_neg (by intro h; rcases h with h | h | h; exact hf0 h; exact hfn h; exact hfp h)] at hw
          have HW := Lib.hid hw
          have hm0 : f' % P = 0 := by rw [hf'] at hz2; exact_mod_cast hz2
          have b2 : decide ((n : Int) - f < (P : Int)) = false := decide_eq_false hfp
          have HF' : Hid (f = (f' : Int) ∧ f' % P = 0 ∧ f' + P ≤ n) := ⟨hf', hm0, by omega⟩
          clear hw hz hz2 hP1 hk hf' hm0
          go_enter Try.func32, Try.ntmps32
          go_wp2_with (go_at_call 14; refine (HSZ.out _).mono ?_; rintro e w6 ⟨rfl, rfl⟩)
          go_quiet ((go_at_call 14; exact Calls.quiet_of_same (HSZ.out _)))
          go_wp2_with fail
          refine (RA.out _ (by (repeat (first | exact Keep.refl _ _ | exact Keep.refl _ _ | refine Keep.drew ?_ | refine Keep.drewN ?_ _ | refine Keep.alloc ?_ _ | refine Keep.setNew ?_ (by omega) _)); done) f' HF'.out.1 (by have := HF'.out.2.2; omega)).mono ?_
          rintro e w7 ⟨hw7, ⟨hall, rfl⟩ | ⟨hall, rfl⟩⟩
          · have HK7 : Hid (Keep (fun _ => False) w6 w7) := by unfold Hid; rw [hw7]; exact (by (repeat (first | exact Keep.refl _ _ | exact Keep.refl _ _ | refine Keep.drew ?_ | refine Keep.drewN ?_ _ | refine Keep.alloc ?_ _ | refine Keep.setNew ?_ (by omega) _)); done)
            have HALL := Lib.hid hall
            clear hw7 hall
            go_wp2_with fail
            refine (RS.out _ HK7.out f' HF'.out.1 HF'.out.2.2).mono ?_
            rintro e w8 ⟨rfl, hx8, hk8⟩
            have HX8 := Lib.hid hx8
            have HK8 := Lib.hid hk8
            clear hx8 hk8
            go_wp2
            go_ret
            exact .inr ⟨HW.out, f', k, HF'.out.1, rfl, HKK.out, by rw [HPK.out]; exact HF'.out.2.1, by rw [HPK.out]; exact HF'.out.2.2, .inr ⟨by rw [HPK.out]; exact HALL.out, rfl, HX8.out, (HK7.out.mono (fun _ _ h => h.elim)).trans HK8.out⟩⟩
          · have HK7 : Hid (Keep (fun _ => False) w6 w7) := by unfold Hid; rw [hw7]; exact (by (repeat (first | exact Keep.refl _ _ | exact Keep.refl _ _ | refine Keep.drew ?_ | refine Keep.drewN ?_ _ | refine Keep.alloc ?_ _ | refine Keep.setNew ?_ (by omega) _)); done)
            have HALL := Lib.hid hall
            clear hw7 hall
            go_wp2
            go_ret
            exact .inr ⟨HW.out, f', k, HF'.out.1, rfl, HKK.out, by rw [HPK.out]; exact HF'.out.2.1, by rw [HPK.out]; exact HF'.out.2.2, .inl ⟨by rw [HPK.out]; exact HALL.out, rfl, HK7.out⟩⟩
  · have hz2 : f % (P : Int) ≠ 0 := fun h => hr0 (hz.mpr h)
    rw [if_pos hz2] at hw
    have HW := Lib.hid hw
    have hr2 : (r != 0) = true := by rw [bne_iff_ne]; exact hr0
    clear hw hz hz2 hP1 hk
    go_enter Try.func32, Try.ntmps32
    go_wp2_with (go_at_call 14; refine (HSZ.out _).mono ?_; rintro e w6 ⟨rfl, rfl⟩)
    go_ret
    exact chC_wr HW.out (by decide) (by (repeat (first | exact Keep.refl _ _ | exact Keep.refl _ _ | refine Keep.drew ?_ | refine Keep.drewN ?_ _ | refine Keep.alloc ?_ _ | refine Keep.setNew ?_ (by omega) _)); done)

end Go.Proofs.Ytnjcchgbkemekaa
