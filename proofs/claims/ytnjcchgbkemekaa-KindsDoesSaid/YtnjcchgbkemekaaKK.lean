/- Kinds: awake, the walk. -/
import Derived.Test.YtnjcchgbkemekaaKJ
set_option linter.unusedVariables false
set_option linter.unusedSimpArgs false
namespace Go.Proofs.Ytnjcchgbkemekaa
open Go.RowKit Go.Own

section
variable {w : World} {B k b kr : Nat} {N : Nat → Prop}
theorem kaw1 (h : KO w B k b kr 16 (upTo 16) (fun _ => 1) N) : Calls Try.prog 13 #[.pointer (some ⟨k, 0, none⟩), .int .i64 0, .int .i64 0] w fun e w' => e = .returned (.tuple #[.int .i64 0, .int .i64 0]) ∧ KO w' B k b kr 16 aF1 aM1 N ∧ KT3 B b kr N w w' := by
  refine (ktake_any 0 0 h (by decide) (.inl rfl)).mono ?_
  rintro e w' ⟨D, hI, ⟨h1, -⟩ | ⟨y, own, h1, rfl, h2, h3⟩⟩
  · rw [aw_1 hI] at h1; cases h1
  · rw [aw_1 hI] at h1
    injection h1 with h1
    injection h1 with h1 h4
    subst h1; subst h4
    exact ⟨rfl, h2, h3⟩
theorem kaw2 (h : KO w B k b kr 16 aF1 aM1 N) : Calls Try.prog 13 #[.pointer (some ⟨k, 0, none⟩), .int .i64 0, .int .i64 1] w fun e w' => e = .returned (.tuple #[.int .i64 8, .int .i64 0]) ∧ KO w' B k b kr 16 aF2 aM2 N ∧ KT3 B b kr N w w' := by
  refine (ktake_any 0 1 h (by decide) (.inr (.inl rfl))).mono ?_
  rintro e w' ⟨D, hI, ⟨h1, -⟩ | ⟨y, own, h1, rfl, h2, h3⟩⟩
  · rw [aw_2 hI] at h1; cases h1
  · rw [aw_2 hI] at h1
    injection h1 with h1
    injection h1 with h1 h4
    subst h1; subst h4
    exact ⟨rfl, h2, h3⟩
theorem kaw3 (h : KO w B k b kr 16 aF2 aM2 N) : Calls Try.prog 13 #[.pointer (some ⟨k, 0, none⟩), .int .i64 0, .int .i64 0] w fun e w' => e = .returned (.tuple #[.int .i64 1, .int .i64 0]) ∧ KO w' B k b kr 16 (subB aF2 0 1) (tkM aM2 ((0 : Nat) : Int) 0 ⟨1, 0⟩ true) N ∧ KT3 B b kr N w w' := by
  refine (ktake_any 0 0 h (by decide) (.inl rfl)).mono ?_
  rintro e w' ⟨D, hI, ⟨h1, -⟩ | ⟨y, own, h1, rfl, h2, h3⟩⟩
  · rw [aw_3 hI] at h1; cases h1
  · rw [aw_3 hI] at h1
    injection h1 with h1
    injection h1 with h1 h4
    subst h1; subst h4
    exact ⟨rfl, h2, h3⟩
theorem kaw4 (h : KO w B k b kr 16 (subB aF2 0 1) (tkM aM2 ((0 : Nat) : Int) 0 ⟨1, 0⟩ true) N) : Calls Try.prog 17 #[.pointer (some ⟨k, 0, none⟩), .int .i64 3] w fun e w' => e = .returned (.int .i64 0) ∧ w' = w := by
  have h1 := kind_in (f := 3) h (by decide)
  have e : tkM aM2 ((0 : Nat) : Int) 0 ⟨1, 0⟩ true (3 / 8) = 0 := by decide +kernel
  rw [e] at h1
  exact h1
end
theorem kt3_fresh {w w1 w2 : World} {b kr : Nat} {N : Nat → Prop} (K : Keep (fun _ => False) w w1) (h : KT3 w.heap.size b kr N w1 w2) (hb : w.heap.size ≤ b) (hk : w.heap.size ≤ kr) : Keep (fun _ => False) w w2 :=
  keep_fresh K h fun z hz => by
    rcases hz with rfl | ⟨h1, _⟩ | rfl
    · exact hb
    · exact h1.1
    · exact hk

set_option maxHeartbeats 1000000 in
theorem awake_any (w : World) : Calls Try.prog 9 #[] w fun e w' => e = .returned (.bool true) ∧ Keep (fun _ => False) w w' := by
  go_enter Try.func9, Try.ntmps9
  go_wp2_with fail
  refine (knew_any 16 (by decide) (by decide) w).mono ?_
  rintro e w1 ⟨k, b, kr, rfl, hO, hk, hb, hkr, hk1⟩
  have HO1 := Lib.hid hO
  have HK1 := Lib.hid hk1
  have HN := Lib.hid (And.intro hb hkr)
  clear hO hk1 hk hb hkr
  go_wp2_with fail
  refine (kaw1 HO1.out).mono ?_
  rintro e w2 ⟨rfl, hO2, hk2⟩
  have HO2 := Lib.hid hO2
  have HK2 := Lib.hid (kt3_fresh HK1.out hk2 HN.out.1 HN.out.2)
  clear hO2 hk2
  go_wp2_with fail
  refine (kaw2 HO2.out).mono ?_
  rintro e w3 ⟨rfl, hO3, hk3⟩
  have HO3 := Lib.hid hO3
  have HK3 := Lib.hid (kt3_fresh HK2.out hk3 HN.out.1 HN.out.2)
  clear hO3 hk3
  go_wp2_with fail
  refine (kaw3 HO3.out).mono ?_
  rintro e w4 ⟨rfl, hO4, hk4⟩
  have HO4 := Lib.hid hO4
  have HK4 := Lib.hid (kt3_fresh HK3.out hk4 HN.out.1 HN.out.2)
  clear hO4 hk4
  go_wp2_with (go_at_call 17; refine (kaw4 HO4.out).mono ?_; rintro e w5 ⟨rfl, rfl⟩)
  go_ret
  exact ⟨rfl, HK4.out⟩

set_option maxRecDepth 100000 in
set_option maxHeartbeats 1000000 in
theorem none_walk (K f o x n : Int) (w : World) : Calls Try.prog 7 #[.agg #[.int .i64 K, .int .i64 f, .int .i64 o, .int .i64 x, .int .i64 n]] w fun e w' => e = .returned (.bool true) ∧ Below w.heap.size w w' := by
  have HBX : Hid ((w.alloc (.cells #[.int .i64 K, .int .i64 f, .int .i64 o, .int .i64 x, .int .i64 n] 31)).heap[w.heap.size]? = some (.cells #[.int .i64 K, .int .i64 f, .int .i64 o, .int .i64 x, .int .i64 n] 31 (0, 0))) := heap_alloc_new w _
  have HK1 : Hid (Keep (fun _ => False) w (w.alloc (.cells #[.int .i64 K, .int .i64 f, .int .i64 o, .int .i64 x, .int .i64 n] 31))) := (Keep.refl _ _).alloc _
  have c1 : (w.alloc (.cells #[.int .i64 K, .int .i64 f, .int .i64 o, .int .i64 x, .int .i64 n] 31)).cell? ⟨w.heap.size, 1, none⟩ = some (.int .i64 f) := by simp [cell_block HBX.out]
  have c2 : (w.alloc (.cells #[.int .i64 K, .int .i64 f, .int .i64 o, .int .i64 x, .int .i64 n] 31)).cell? ⟨w.heap.size, 2, none⟩ = some (.int .i64 o) := by simp [cell_block HBX.out]
  have c3 : (w.alloc (.cells #[.int .i64 K, .int .i64 f, .int .i64 o, .int .i64 x, .int .i64 n] 31)).cell? ⟨w.heap.size, 3, none⟩ = some (.int .i64 x) := by simp [cell_block HBX.out]
  go_enter Try.func7, Try.ntmps7
  go_wp2_with fail
  generalize w.alloc (.cells #[.int .i64 K, .int .i64 f, .int .i64 o, .int .i64 x, .int .i64 n] 31) = w1 at HBX HK1 c1 c2 c3 ⊢
  refine (ktake_nil o x _).mono ?_
  rintro e w2 ⟨rfl, rfl⟩
  have HC : Hid (w2.cell? ⟨w.heap.size, 1, none⟩ = some (.int .i64 f) ∧ w2.cell? ⟨w.heap.size, 2, none⟩ = some (.int .i64 o) ∧ w2.cell? ⟨w.heap.size, 3, none⟩ = some (.int .i64 x)) := ⟨c1, c2, c3⟩
  clear c1 c2 c3
  go_wp2
  simp only [List.append]
  go_region_held3 (fun w' => w'.cell? ⟨w.heap.size, 1, none⟩ = some (.int .i64 f) ∧ w'.cell? ⟨w.heap.size, 2, none⟩ = some (.int .i64 o) ∧ w'.cell? ⟨w.heap.size, 3, none⟩ = some (.int .i64 x))
    (first | exact HC3.out | exact HC.out)
    (first | (go_at_call 9; refine (awake_any _).mono ?_; rintro e w3 ⟨rfl, hk3⟩; have HK3 : Hid (Keep (fun _ => False) w2 w3) := Keep.trans (by (repeat (first | exact Keep.refl _ _ | exact Keep.refl _ _ | refine Keep.drew ?_ | refine Keep.drewN ?_ _ | refine Keep.alloc ?_ _ | refine Keep.setNew ?_ (by omega) _)); done) hk3; have HC3 : Hid (w3.cell? ⟨w.heap.size, 1, none⟩ = some (.int .i64 f) ∧ w3.cell? ⟨w.heap.size, 2, none⟩ = some (.int .i64 o) ∧ w3.cell? ⟨w.heap.size, 3, none⟩ = some (.int .i64 x)) := ⟨(HK3.out.cell (block_lt_cell HC.out.1) id).trans HC.out.1, (HK3.out.cell (block_lt_cell HC.out.2.1) id).trans HC.out.2.1, (HK3.out.cell (block_lt_cell HC.out.2.2) id).trans HC.out.2.2⟩; clear hk3) | (go_at_call 22; refine (ktakeAt_nil _ _ _).mono ?_; rintro e w4 ⟨rfl, rfl⟩) | (go_at_call 23; refine (kgive_nil _ _ _).mono ?_; rintro e w4 ⟨rfl, rfl⟩) | (go_at_call 24; refine (kset_nil _ _ _).mono ?_; rintro e w4 ⟨rfl, rfl⟩) | (go_at_call 17; refine (kkind_nil _ _).mono ?_; rintro e w4 ⟨rfl, rfl⟩) | (go_at_call 20; refine (kfree_nil _).mono ?_; rintro e w4 ⟨rfl, rfl⟩) | (go_at_call 25; refine (kfreeOf_nil _ _).mono ?_; rintro e w4 ⟨rfl, rfl⟩) | (go_at_call 18; refine (kblocks_nil _).mono ?_; rintro e w4 ⟨rfl, rfl⟩) | (go_at_call 26; refine (khas_nil _ _).mono ?_; rintro e w4 ⟨rfl, rfl⟩))
  go_wp2
  go_ret
  exact ⟨rfl, (HK1.out.trans (by (repeat (first | exact HK3.out | exact Keep.refl _ _ | refine Keep.drew ?_ | refine Keep.drewN ?_ _ | refine Keep.alloc ?_ _ | refine Keep.setNew ?_ (by omega) _)); done)).below⟩

end Go.Proofs.Ytnjcchgbkemekaa
