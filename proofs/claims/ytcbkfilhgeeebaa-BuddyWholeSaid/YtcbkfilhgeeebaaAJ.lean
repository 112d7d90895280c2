/- Buddy: made. -/
import Derived.Test.YtcbkfilhgeeebaaAI
set_option linter.unusedVariables false
set_option linter.unusedSimpArgs false
namespace Go.Proofs.Ytcbkfilhgeeebaa
open Go.RowKit Go.Own

/-- Both objects, and what was taken. -/
def St (w : World) (B q p x g n : Nat) (F : Nat → Bool) (v : Value) (T : List Bk) : Prop :=
  Two w B p x g n F ∧ w.heap[q]? = some (.cells #[.pointer (some ⟨p, 0, none⟩), .pointer (some ⟨x, 0, none⟩), v] 46 (0, 0)) ∧ OwnL bkE w B 55 v T ∧ B ≤ q
set_option maxHeartbeats 400000 in
theorem made_bad (n : Int) (h : n < 8 ∨ 1024 < n) (w : World) : Calls Try.prog 16 #[.int .i64 n] w fun e w' => e = .returned (.tuple #[.pointer none, .bool true]) ∧ Keep (fun _ => False) w w' := by
  go_enter Try.func16, Try.ntmps16
  go_wp2_with fail
  refine (new_bad n h _).mono ?_
  rintro e w1 ⟨rfl, hk⟩
  have HK := Lib.hid hk
  clear hk
  go_wp2_with fail
  refine (rnew_bad n h _).mono ?_
  rintro e w2 ⟨rfl, rfl⟩
  go_wp2
  go_ret2
  exact ⟨rfl, HK.out⟩
set_option maxHeartbeats 400000 in
theorem made_any (n : Nat) (h0 : 8 ≤ n) (h1 : n ≤ 1024) (w : World) : Calls Try.prog 16 #[.int .i64 (n : Int)] w fun e w' => ∃ q p x g, e = .returned (.tuple #[.pointer (some ⟨q, 0, none⟩), .bool true]) ∧ St w' w.heap.size q p x g n (upTo n) (.slice none 0 0) [] ∧ Keep (fun _ => False) w w' := by
  have HM := Lib.hid (And.intro h0 h1)
  clear h0 h1
  go_enter Try.func16, Try.ntmps16
  go_wp2_with fail
  refine (new_any n w.heap.size HM.out.1 HM.out.2 _ (Nat.le_refl _)).mono ?_
  rintro e w1 ⟨p, rfl, hb, hp, hk⟩
  have HB := Lib.hid hb
  have HP := Lib.hid hp
  have HK := Lib.hid hk
  clear hb hp hk
  go_wp2_with fail
  refine (rnew_any n HM.out.1 HM.out.2 _).mono ?_
  rintro e w2 ⟨x, g, rfl, hr, hx, hg, hk2⟩
  have HR := Lib.hid hr
  have HX := Lib.hid (And.intro hx hg)
  have HK2 := Lib.hid hk2
  clear hr hx hg hk2
  go_wp2
  go_ret2
  have hs := HK.out.size
  have hs2 := HK2.out.size
  have KA : Keep (fun _ => False) w2 (w2.alloc (.cells #[.pointer (some ⟨p, 0, none⟩), .pointer (some ⟨x, 0, none⟩), .slice none 0 0] 46)) := (Keep.refl _ _).alloc _
  have h3 := HX.out
  exact ⟨w2.heap.size, p, x, g, rfl, ⟨⟨(BF.keep0 HB.out (HK2.out.trans KA)).typ, HR.out.keep KA id id, HP.out, by omega, by omega, by have := KA.size; omega⟩, heap_alloc_new w2 _, OwnL.nil _ _ _, by omega⟩, HK.out.trans (HK2.out.trans KA)⟩

end Go.Proofs.Ytcbkfilhgeeebaa
