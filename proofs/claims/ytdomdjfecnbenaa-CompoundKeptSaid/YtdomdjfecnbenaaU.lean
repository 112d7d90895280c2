/- Compounds: Split. -/
import Derived.Test.YtdomdjfecnbenaaT
set_option linter.unusedVariables false
set_option linter.unusedSimpArgs false
namespace Go.Proofs.Ytdomdjfecnbenaa
open Go.RowKit Go.Own

set_option maxHeartbeats 2000000 in
theorem split_yes (B p : Nat) (v u : Value) (L : List Cp) (Q : List Int) (x k : Nat) (hx : x < 1024) (w : World) (hB : B ≤ w.heap.size) (hR : RepC w B p v u L Q) (hn : whI L ((x / 8 * 8 : Nat) : Int) = k) (hk : k < L.length) (hf : 0 ≤ L[k].f ∧ L[k].f < 100000) :
    Calls Try.prog 16 #[.pointer (some ⟨p, 0, none⟩), .int .i64 x] w fun e w' => ∃ v' u' y, e = .returned (.tuple #[y, .int .i64 0]) ∧ RepC w' B p v' u' (rmv L k) (lvQ Q L[k].f) ∧ OwnL inE w' w.heap.size 3 y (lostN L[k].f L[k].b 8) ∧ Keep (fun z => z = p) w w' ∧
      (∀ z, v'.ownBlock = some z → w.heap.size ≤ z) ∧ (∀ z, u'.ownBlock = some z → u.ownBlock = some z ∨ w.heap.size ≤ z) := by
  obtain ⟨g, cap, rfl, hBg, hcap, hgl⟩ := hR.hv.form (by intro e; subst e; simp at hk)
  have hl := hR.hl
  have hlb := hR.hb _ (List.getElem_mem hk)
  have HF := Lib.hid hf
  clear hf
  go_enter Try.func16, Try.ntmps16
  go_wp2_with (first | (go_at_call 28; go_loud (refine (find_yes B p _ u _ Q x k hx _ hR hn).mono ?_; rintro e w1 ⟨rfl, hk1⟩; have HR1 := Lib.hid (hR.keep0 hk1); have HK1 := Lib.hid hk1; clear hk1; have hc0 := HR1.out.c0; obtain ⟨c0, c1⟩ := cp_cells HR1.out.hv hk)) | (go_at_call 32; go_loud (refine (lost_any L[k] HF.out hlb _).mono ?_; rintro e w3 ⟨v3, rfl, hO3, hk3⟩; have HO3 := Lib.hid hO3; have HR3 := Lib.hid (HR1.out.keep0 hk3); have HK3 := Lib.hid (HK1.out.trans hk3); clear hO3 hk3)) | (go_at_call 30; go_loud (refine (drop_any B p k _ u _ Q _ (by have := HK3.out.size; omega) HR3.out hk).mono ?_; rintro e w4 ⟨rfl, v4, u4, hR4, hk4, hv4, hu4⟩; have HR4 := Lib.hid hR4; have HK4 := Lib.hid hk4; have HV4 := Lib.hid hv4; have HU4 := Lib.hid hu4; clear hR4 hk4 hv4 hu4)))
  go_ret2
  have hs1 := HK1.out.size
  have hs3 := HK3.out.size
  have hpl := block_lt HR1.out.hp
  refine ⟨v4, u4, v3, rfl, HR4.out, ?_, (HK3.out.mono (fun _ _ h => h.elim)).trans HK4.out, fun z hz => by have := HV4.out z hz; omega, fun z hz => ?_⟩
  · exact (HO3.out.base (C := w.heap.size) (fun z hz => by have := (HO3.out.lt z hz).1; omega)).keep HK4.out (fun z hz => by have := (HO3.out.lt z hz).1; omega)
  · rcases HU4.out z hz with h | h
    · exact .inl h
    · exact .inr (by omega)

end Go.Proofs.Ytdomdjfecnbenaa
