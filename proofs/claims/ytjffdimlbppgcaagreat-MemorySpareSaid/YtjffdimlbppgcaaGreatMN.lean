/- Memory: New of the reference. -/
import Derived.Test.YtjffdimlbppgcaaGreatMM
set_option linter.unusedVariables false
set_option linter.unusedSimpArgs false
namespace Go.Proofs.YtjffdimlbppgcaaGreat
open Go.RowKit Go.Own

theorem xnew_bad (n mk : Int) (h : n < 8 ∨ 1024 < n) (w : World) : Calls Tryz.prog 18 #[.int .i64 n, .int .i64 mk] w fun e w' => e = .returned (.tuple #[.pointer none, .int .i64 2]) ∧ Keep (fun _ => False) w w' := by
  have HB := Lib.hid h
  clear h
  go_enter Tryz.func18, Tryz.ntmps18
  go_wp2_with fail
  refine (rknew_bad n HB.out _).mono ?_
  rintro e w1 ⟨rfl, hk⟩
  go_wp2
  go_ret2
  exact ⟨rfl, (by (repeat (first | exact hk | exact Keep.refl _ _ | refine Keep.drew ?_ | refine Keep.drewN ?_ _ | refine Keep.alloc ?_ _ | refine Keep.setNew ?_ (by omega) _)); done)⟩
theorem xnew_mark (n : Nat) (mk : Int) (h0 : 8 ≤ n) (h1 : n ≤ 1024) (hm : mk < 0 ∨ (n : Int) < mk) (w : World) : Calls Tryz.prog 18 #[.int .i64 (n : Int), .int .i64 mk] w fun e w' => e = .returned (.tuple #[.pointer none, .int .i64 2]) ∧ Keep (fun _ => False) w w' := by
  have HN := Lib.hid (And.intro h0 h1)
  clear h0 h1
  rcases mark_cases hm with t0 | ⟨t0, t1⟩
  all_goals
    clear hm
    go_enter Tryz.func18, Tryz.ntmps18
    go_wp2_with fail
    refine (rknew_any n HN.out.1 HN.out.2 _).mono ?_
    rintro e w1 ⟨X, x, g, r, cap, rfl, _, _, _, _, _, hk⟩
    have HK := Lib.hid hk
    clear hk
    go_wp2
    go_ret2
    exact ⟨rfl, (by (repeat (first | exact HK.out | exact Keep.refl _ _ | refine Keep.drew ?_ | refine Keep.drewN ?_ _ | refine Keep.alloc ?_ _ | refine Keep.setNew ?_ (by omega) _)); done)⟩
structure AtX (A : Ad) (X K x g rr cap W wg n mk : Nat) : Prop where
  e1 : A.X = X
  e2 : A.K = K
  e3 : A.x = x
  e4 : A.g = g
  e5 : A.rr = rr
  e6 : A.cap = cap
  e7 : A.W = W
  e8 : A.wg = wg
  ea : A.n = n
  eb : A.mark = mk
set_option maxRecDepth 100000 in
set_option maxHeartbeats 2000000 in
theorem xnew_any (n mk : Nat) (h0 : 8 ≤ n) (h1 : n ≤ 1024) (hm : mk ≤ n) (w : World) : Calls Tryz.prog 18 #[.int .i64 (n : Int), .int .i64 (mk : Int)] w fun e w' => ∃ X K x g rr cap W wg g2, e = .returned (.tuple #[.pointer (some ⟨X, 0, none⟩), .int .i64 0]) ∧
    (∀ A : Ad, AtX A X K x g rr cap W wg n mk → A.B ≤ w.heap.size → Mx w' A (.slice (some ⟨g2, 0, none⟩) n n) (P0 n)) ∧ w.heap.size ≤ rr ∧ w.heap.size ≤ g2 ∧ Keep (fun _ => False) w w' := by
  have HN := Lib.hid (And.intro h0 (And.intro h1 hm))
  have t0 : decide ((mk : Int) < 0) = false := by simp
  have t1 : decide ((n : Int) < (mk : Int)) = false := by simp; omega
  have t1n : decide (n < mk) = false := by simp; omega
  have hmk := fun W => make33 n (by omega) W
  obtain ⟨R, hR⟩ : ∃ R, Array.replicate n (Value.int .i64 0) = R := ⟨_, rfl⟩
  have HR := Lib.hid hR
  simp only [hR] at hmk
  clear h0 h1 hm hR
  go_enter Tryz.func18, Tryz.ntmps18
  go_wp2_with fail
  refine (rknew_any n HN.out.1 HN.out.2.1 _).mono ?_
  rintro e w1 ⟨K, x, g, rr, cap, rfl, hO, hK, hx, hg, hrr, hk1⟩
  have HO := Lib.hid hO
  have HA := Lib.hid (And.intro hK (And.intro hx (And.intro hg hrr)))
  have HK1 : Hid (Keep (fun _ => False) w w1) := Keep.trans (by (repeat (first | exact Keep.refl _ _ | exact Keep.refl _ _ | refine Keep.drew ?_ | refine Keep.drewN ?_ _ | refine Keep.alloc ?_ _ | refine Keep.setNew ?_ (by omega) _)); done) hk1
  clear hO hK hx hg hrr hk1
  go_wp2_with fail
  refine (wram_new n HN.out.1 HN.out.2.1 _).mono ?_
  rintro e w2 ⟨W, wg, rfl, hrw, hw1, hw2, hk2⟩
  have HRW := Lib.hid hrw
  have HK2 : Hid (Keep (fun _ => False) w1 w2) := Keep.trans (by (repeat (first | exact Keep.refl _ _ | exact Keep.refl _ _ | refine Keep.drew ?_ | refine Keep.drewN ?_ _ | refine Keep.alloc ?_ _ | refine Keep.setNew ?_ (by omega) _)); done) hk2
  have HW := Lib.hid (And.intro hw1 hw2)
  clear hrw hw1 hw2 hk2
  go_wp2
  go_ret2
  have hz : (w2.alloc (.cells R 3)).heap.size = w2.heap.size + 1 := World.size_alloc _ _
  have hRb := heap_alloc_new w2 (.cells R 3)
  have hXb := heap_alloc_new (w2.alloc (.cells R 3)) (.cells #[.pointer (some ⟨K, 0, none⟩), .pointer (some ⟨W, 0, none⟩), .slice (some ⟨w2.heap.size, 0, none⟩) n n, .int .i64 (mk : Int)] 50)
  have K3 : Keep (fun _ => False) w2 ((w2.alloc (.cells R 3)).alloc (.cells #[.pointer (some ⟨K, 0, none⟩), .pointer (some ⟨W, 0, none⟩), .slice (some ⟨w2.heap.size, 0, none⟩) n n, .int .i64 (mk : Int)] 50)) := ((Keep.refl _ _).alloc _).alloc _
  have K3' : Keep (fun _ => False) (w2.alloc (.cells R 3)) ((w2.alloc (.cells R 3)).alloc (.cells #[.pointer (some ⟨K, 0, none⟩), .pointer (some ⟨W, 0, none⟩), .slice (some ⟨w2.heap.size, 0, none⟩) n n, .int .i64 (mk : Int)] 50)) := (Keep.refl _ _).alloc _
  have hRb2 := (K3'.block _ (block_lt hRb) id).trans hRb
  rw [hz] at hXb
  have s1 := HK1.out.size
  have s2 := HK2.out.size
  have hA := HA.out
  have hW := HW.out
  have hrl := HO.out.mt.lt
  refine ⟨w2.heap.size + 1, K, x, g, rr, cap, W, wg, w2.heap.size, rfl, ?_, hA.2.2.2, by omega, HK1.out.trans (HK2.out.trans K3)⟩
  rintro ⟨B, _, _, _, _, _, _, _, _, _, _, _, _, _, _, _, _, _, _⟩ ⟨e1, e2, e3, e4, e5, e6, e7, e8, ea, eb⟩ hB
  simp only at e1 e2 e3 e4 e5 e6 e7 e8 ea eb hB
  subst e1 e2 e3 e4 e5 e6 e7 e8 ea eb
  refine ⟨hXb, HO.out.keep0 (HK2.out.trans K3), HRW.out.keep K3 id id, ⟨by simp [P0], .inr ⟨w2.heap.size, _, R, rfl, by simp only; omega, hRb2, Nat.le_refl _, ?_, ?_, ?_⟩⟩, by simp [P0], ?_, by simp only; omega⟩
  · have := HN.out.2.1; unfold maxLen; omega
  · rw [← HR.out]; simp
  · rw [← HR.out]; simp [P0]
  · intro z hz'
    simp [Value.ownBlock] at hz'
    simp only [ne_eq]
    omega

end Go.Proofs.YtjffdimlbppgcaaGreat
