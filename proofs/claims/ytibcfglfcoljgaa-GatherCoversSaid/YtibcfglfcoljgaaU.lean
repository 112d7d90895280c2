/- Gather: Take at large. -/
import Derived.Test.YtibcfglfcoljgaaT
import Derived.Test.YtibcfglfcoljgaaG
set_option linter.unusedVariables false
set_option linter.unusedSimpArgs false
namespace Go.Proofs.Ytibcfglfcoljgaa
open Go.RowKit Go.Own

def TakeC (w : World) (B p : Nat) (m : Int) (v u : Value) (L : List Fl) (Q : List Bk) (r : Int) (e : Ending) (w' : World) : Prop :=
  ∃ L' r', e = .returned (.tuple #[v, u]) ∧ L'.Perm L ∧ L'.Pairwise leF ∧ OwnL flE w' B 40 v L' ∧ OwnL bkE w' B 48 u Q ∧ RepH w' B p m (.slice none 0 0) (.slice none 0 0) [] [] r' ∧ (r' = if L.length + Q.length = 0 then r else r + 1) ∧
    Keep (fun z => z = p ∨ v.ownBlock = some z) w w'

set_option maxHeartbeats 1000000 in
theorem take_some (B p : Nat) (m : Int) (v u : Value) (L : List Fl) (Q : List Bk) (r : Int) (hL : ∀ x, x ∈ L → fine x) (h0 : L.length + Q.length ≠ 0) (hr : r < 900) (w : World) (hR : RepH w B p m v u L Q r) :
    Calls Try.prog 10 #[.pointer (some ⟨p, 0, none⟩)] w (TakeC w B p m v u L Q r) := by
  have HL := Lib.hid hL
  have HRR := Lib.hid hR
  have hll := hR.hl
  have hlq := hR.hq
  have hrr := hR.hr
  obtain ⟨c0, c1, c2, c3⟩ := hR.cs
  obtain ⟨a, c, rfl, hag⟩ := hR.hv.slice
  obtain ⟨a2, cu, rfl, -⟩ := hR.hu.slice
  have hlen : ((L.length : Int) + (Q.length : Int) == 0) = false := by rw [beq_eq_false_iff_ne]; omega
  have hlen2 : IntKind.i64.wrap ((L.length : Int) + (Q.length : Int)) = (L.length : Int) + (Q.length : Int) := IntWalk.i64_in _ (by omega)
  have H0 := Lib.hid h0
  have HS : Hid (∀ W, OwnL flE W B 40 (.slice a L.length c) L → Calls Try.prog 22 #[.slice a L.length c, .func (.func 23) #[] #[]] W fun e w' => e = .returned (.tuple #[]) ∧ ∃ L' : List Fl, L'.Perm L ∧ L'.Pairwise leF ∧ OwnL flE w' B 40 (.slice a L.length c) L' ∧ Keep (fun z => (Value.slice a L.length c).ownBlock = some z) W w') := by
    intro W hW
    by_cases h1 : L.length ≤ 1
    · refine (sort_small a L.length c h1 _ W).mono ?_
      rintro e w1 ⟨rfl, rfl⟩
      refine ⟨rfl, L, List.Perm.refl _, ?_, hW, Keep.refl _ _⟩
      match L, h1 with
      | [], _ => exact List.Pairwise.nil
      | [x], _ => exact List.pairwise_singleton _ _
    · obtain ⟨g, rfl⟩ := hag (by intro e; subst e; simp at h1)
      refine (sort_any B g c L HL.out (by omega) W hW).mono ?_
      rintro e w1 ⟨rfl, L', h2, h3, h4, h5⟩
      exact ⟨rfl, L', h2, h3, h4, h5.mono fun z _ hz => by subst hz; rfl⟩
  clear hL hR h0 hag
  go_enter Try.func10, Try.ntmps10
  go_wp2
  go_quiet (fail)
  go_wp2
  go_quiet (fail)
  go_wp2_with fail
  generalize hw9 : World.drewN _ _ = w9
  have K9 : Hid (Keep (fun _ => False) w w9) := by rw [← hw9]; exact (by (repeat (first | exact Keep.refl _ _ | exact Keep.refl _ _ | refine Keep.drew ?_ | refine Keep.drewN ?_ _ | refine Keep.alloc ?_ _ | refine Keep.setNew ?_ (by omega) _)); done)
  clear hw9 c0 c1 c2 c3
  have HR9 := Lib.hid (HRR.out.keep0 K9.out)
  refine (HS.out w9 HR9.out.hv).mono ?_
  rintro e w1 ⟨rfl, L', hp, hs, hO, hk⟩
  have hp1 : w1.heap[p]? = some (.cells #[.int .i64 m, .slice a L.length c, .slice a2 Q.length cu, .int .i64 r] 59 (0, 0)) := (hk.block p (block_lt HR9.out.hp) HR9.out.nv).trans HR9.out.hp
  have f1 : w1.frozen? ⟨p, 1, none⟩ = false := frozen_block hp1
  have f2 : w1.frozen? ⟨p, 2, none⟩ = false := frozen_block hp1
  have f3 : w1.frozen? ⟨p, 3, none⟩ = false := frozen_block hp1
  have e1 : w1.cell? ⟨p, 1, none⟩ = some (.slice a L.length c) := by rw [cell_block hp1]; rfl
  have e2 : w1.cell? ⟨p, 2, none⟩ = some (.slice a2 Q.length cu) := by rw [cell_block hp1]; rfl
  have e3 : w1.cell? ⟨p, 3, none⟩ = some (.int .i64 r) := by rw [cell_block hp1]; rfl
  have HP1 := Lib.hid hp1
  have HP := Lib.hid hp
  have HSS := Lib.hid hs
  have HO := Lib.hid hO
  have HK := Lib.hid hk
  have HU : Hid (OwnL bkE w1 B 48 (.slice a2 Q.length cu) Q) := HR9.out.hu.keep hk (fun x hx e => by
    obtain ⟨c1, h1⟩ := own_typ HR9.out.hu hx
    obtain ⟨c2, h2⟩ := own_typ HR9.out.hv e
    exact typ_ne h1 h2 (by decide) rfl)
  clear hp1 hp hs hO hk
  go_wp2
  go_ret2
  have KP := (((Keep.refl (fun z => z = p) w1).setCell (p := ⟨p, 1, none⟩) (fun _ => rfl) (.slice none 0 0)).setCell (p := ⟨p, 2, none⟩) (fun _ => rfl) (.slice none 0 0)).setCell (p := ⟨p, 3, none⟩) (fun _ => rfl) (.int .i64 (r + 1))
  refine ⟨L', r + 1, rfl, HP.out, HSS.out, HO.out.keep KP (fun x hx e => ?_), HU.out.keep KP (fun x hx e => HR9.out.nu (e ▸ hx)), ⟨?_, OwnL.nil _ _ _, OwnL.nil _ _ _, by simp [Value.ownBlock], by simp [Value.ownBlock], by simp, by simp, by omega⟩, by rw [if_neg H0.out], ?_⟩
  · exact HRR.out.nv (e ▸ hx)
  · rw [heap_setCell_eq (heap_setCell_eq (heap_setCell_eq HP1.out))]; rfl
  · exact ((K9.out.mono (fun _ _ h => h.elim)).trans (HK.out.mono (fun _ _ h => .inr h))).trans (KP.mono (fun _ _ h => .inl h))

set_option maxHeartbeats 1000000 in
theorem take_empty (B p : Nat) (m : Int) (v u : Value) (r : Int) (w : World) (hR : RepH w B p m v u [] [] r) :
    Calls Try.prog 10 #[.pointer (some ⟨p, 0, none⟩)] w fun e w' => e = .returned (.tuple #[.slice none 0 0, .slice none 0 0]) ∧ Keep (fun _ => False) w w' := by
  obtain ⟨c0, c1, c2, c3⟩ := hR.cs
  obtain ⟨a, c, rfl, hag⟩ := hR.hv.slice
  obtain ⟨a2, cu, rfl, -⟩ := hR.hu.slice
  go_enter Try.func10, Try.ntmps10
  go_wp2
  go_quiet (fail)
  go_wp2
  go_ret2
  exact ⟨rfl, (by (repeat (first | exact Keep.refl _ _ | exact Keep.refl _ _ | refine Keep.drew ?_ | refine Keep.drewN ?_ _ | refine Keep.alloc ?_ _ | refine Keep.setNew ?_ (by omega) _)); done)⟩

/-! ### Full -/
set_option maxHeartbeats 400000 in
theorem full_any (B p : Nat) (m : Int) (v u : Value) (L : List Fl) (Q : List Bk) (r : Int) (w : World) (hR : RepH w B p m v u L Q r) : Calls Try.prog 20 #[.pointer (some ⟨p, 0, none⟩)] w fun e w' => e = .returned (.bool (decide (m ≤ (Q.length : Int)))) ∧ Keep (fun _ => False) w w' := by
  obtain ⟨c0, c1, c2, c3⟩ := hR.cs
  obtain ⟨a, c, rfl, -⟩ := hR.hu.slice
  by_cases hm : m ≤ (Q.length : Int)
  · have h1 : decide (m ≤ (Q.length : Int)) = true := decide_eq_true hm
    rw [h1]
    clear hm
    go_enter Try.func20, Try.ntmps20
    go_wp2
    go_quiet (fail)
    go_wp2
    go_ret
    exact ⟨rfl, (by (repeat (first | exact Keep.refl _ _ | exact Keep.refl _ _ | refine Keep.drew ?_ | refine Keep.drewN ?_ _ | refine Keep.alloc ?_ _ | refine Keep.setNew ?_ (by omega) _)); done)⟩
  · have h1 : decide (m ≤ (Q.length : Int)) = false := decide_eq_false hm
    rw [h1]
    clear hm
    go_enter Try.func20, Try.ntmps20
    go_wp2
    go_quiet (fail)
    go_wp2
    go_ret
    exact ⟨rfl, (by (repeat (first | exact Keep.refl _ _ | exact Keep.refl _ _ | refine Keep.drew ?_ | refine Keep.drewN ?_ _ | refine Keep.alloc ?_ _ | refine Keep.setNew ?_ (by omega) _)); done)⟩
theorem rounds_some (B p : Nat) (m : Int) (v u : Value) (L : List Fl) (Q : List Bk) (r : Int) (w : World) (hR : RepH w B p m v u L Q r) : Calls Try.prog 14 #[.pointer (some ⟨p, 0, none⟩)] w fun e w' => e = .returned (.int .i64 r) ∧ w = w' := by
  obtain ⟨c0, c1, c2, c3⟩ := hR.cs
  go_enter Try.func14, Try.ntmps14
  go_wp2
  go_ret
  exact ⟨rfl, rfl⟩

end Go.Proofs.Ytibcfglfcoljgaa
