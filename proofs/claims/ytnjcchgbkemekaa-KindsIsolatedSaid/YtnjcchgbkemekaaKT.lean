/- Kinds: both objects; made. -/
import Derived.Test.YtnjcchgbkemekaaKR
import Derived.Test.YtnjcchgbkemekaaKS
set_option linter.unusedVariables false
set_option linter.unusedSimpArgs false
namespace Go.Proofs.Ytnjcchgbkemekaa
open Go.RowKit Go.Own

/-- One more row of numbers that is not the buddy's. -/
theorem KO.add {w w' : World} {B k b kr n r : Nat} {F : Nat → Bool} {M : Nat → Int} {N : Nat → Prop} (h : KO w B k b kr n F M N) (K : Keep (fun _ => False) w w') (h1 : w.heap.size ≤ r) (h2 : r < w'.heap.size) : KO w' B k b kr n F M (fun z => N z ∨ z = r) :=
  ⟨(K.block k (block_lt h.hk) id).trans h.hk, (BF.keep0 h.bf K).gk (fun z hz hn => by
    rcases hn with hn | rfl
    · exact hz.1.2.2 hn
    · have := hz.1.2.1; omega), h.mt.keep K id, .inl h.nk, fun z hz => by
    rcases hz with hz | rfl
    · exact Nat.lt_of_lt_of_le (h.nl z hz) K.size
    · exact h2, Nat.le_trans h.hB K.size⟩
theorem kmade_bad (n : Int) (h : sm n < 8 ∨ 1024 < sm n) (w : World) : Calls Try.prog 8 #[.int .i64 n] w fun e w' => e = .returned (.tuple #[.pointer none, .bool true]) ∧ Keep (fun _ => False) w w' := by
  have HB := Lib.hid h
  clear h
  go_enter Try.func8, Try.ntmps8
  go_wp2_with fail
  refine (small_any n _).mono ?_
  rintro e w1 ⟨rfl, rfl⟩
  go_wp2_with fail
  refine (knew_bad (sm n) HB.out _).mono ?_
  rintro e w2 ⟨rfl, hk2⟩
  have HK2 := Lib.hid hk2
  clear hk2
  go_wp2_with fail
  refine (small_any n _).mono ?_
  rintro e w3 ⟨rfl, rfl⟩
  go_wp2_with fail
  refine (rknew_bad (sm n) HB.out _).mono ?_
  rintro e w4 ⟨rfl, hk4⟩
  have HK4 := Lib.hid (HK2.out.trans hk4)
  clear hk4
  go_wp2
  go_ret2
  exact ⟨rfl, HK4.out⟩
/-- Both objects, and what was taken (the world's struct q). -/
structure TwoK (w : World) (B k b kr X x g r cap n : Nat) (F : Nat → Bool) (M : Nat → Int) : Prop where
  ko : KO w B k b kr n F M (fun z => z = kr ∨ z = r)
  rk : RK w X x g r cap n F M
  bk : B ≤ k ∧ B ≤ b ∧ B ≤ kr ∧ B ≤ X ∧ B ≤ x ∧ B ≤ g ∧ B ≤ r
  ne : kr ≠ r
set_option maxHeartbeats 1000000 in
theorem kmade_any (n : Int) (m : Nat) (hn : sm n = m) (h8 : 8 ≤ m) (h1 : m ≤ 150) (w : World) : Calls Try.prog 8 #[.int .i64 n] w fun e w' => ∃ q k b kr X x g r cap, e = .returned (.tuple #[.pointer (some ⟨q, 0, none⟩), .bool true]) ∧ TwoK w' w.heap.size k b kr X x g r cap m (upTo m) (fun _ => 1) ∧
    w'.heap[q]? = some (.cells #[.pointer (some ⟨k, 0, none⟩), .pointer (some ⟨X, 0, none⟩), .slice none 0 0] 40 (0, 0)) ∧ w.heap.size ≤ q ∧ Keep (fun _ => False) w w' := by
  have HM := Lib.hid (And.intro h8 (show m ≤ 1024 by omega))
  have HS : Hid (∀ W, Calls Try.prog 28 #[.int .i64 n] W fun e w' => e = .returned (.int .i64 (m : Int)) ∧ w' = W) := fun W => by rw [← hn]; exact small_any n W
  clear h8 h1 hn
  go_enter Try.func8, Try.ntmps8
  go_wp2_with fail
  refine (HS.out _).mono ?_
  rintro e w1 ⟨rfl, rfl⟩
  go_wp2_with fail
  refine (knew_any m HM.out.1 HM.out.2 _).mono ?_
  rintro e w2 ⟨k, b, kr, rfl, hO, hk, hb, hkr, hk2⟩
  have HO2 := Lib.hid hO
  have HB2 := Lib.hid (And.intro hk (And.intro hb hkr))
  have HK2 := Lib.hid hk2
  clear hO hk hb hkr hk2
  go_wp2_with fail
  refine (HS.out _).mono ?_
  rintro e w3 ⟨rfl, rfl⟩
  go_wp2_with fail
  refine (rknew_any m HM.out.1 HM.out.2 _).mono ?_
  rintro e w4 ⟨X, x, g, r, cap, rfl, hR, h1, h2, h3, h4, hk4⟩
  have HR4 := Lib.hid hR
  have HB4 := Lib.hid (And.intro h1 (And.intro h2 (And.intro h3 h4)))
  have HK4 := Lib.hid hk4
  clear hR h1 h2 h3 h4 hk4
  go_wp2
  go_ret2
  have K5 : Keep (fun _ => False) w4 (w4.alloc (.cells #[.pointer (some ⟨k, 0, none⟩), .pointer (some ⟨X, 0, none⟩), .slice none 0 0] 40)) := (Keep.refl _ _).alloc _
  have hs2 := HK2.out.size
  have hs4 := HK4.out.size
  have hb2 := HB2.out
  have hb4 := HB4.out
  have hrl := HR4.out.mt.lt
  have hkl := HO2.out.mt.lt
  exact ⟨w4.heap.size, k, b, kr, X, x, g, r, cap, rfl, ⟨(HO2.out.add HK4.out hb4.2.2.2 hrl).keep0 K5, HR4.out.keep0 K5, by omega, by omega⟩, heap_alloc_new w4 _, by omega, HK2.out.trans (HK4.out.trans K5)⟩

end Go.Proofs.Ytnjcchgbkemekaa
