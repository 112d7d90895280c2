/- Kinds: New. -/
import Derived.Test.YtnjcchgbkemekaaKB
set_option linter.unusedVariables false
set_option linter.unusedSimpArgs false
namespace Go.Proofs.Ytnjcchgbkemekaa
open Go.RowKit Go.Own

theorem info3' : (Try.prog.info? 3).map (fun i => (i.zero, i.size, i.bytes)) = some (some (.int .i64 0), 1, 8) := by kernel_rfl
theorem make33 (n : Nat) (h : n ≤ 100000) (w : World) : (Instr.makeSlice 33 (.int .i64 (n : Int)) (.int .i64 (n : Int))).run Try.prog w = .ok (.slice (some ⟨w.heap.size, 0, none⟩) n n) (w.alloc (.cells (Array.replicate n (.int .i64 0)) 3)) := by
  rw [run_make_row' 33 3 (.int .i64 0) 8 Try.underlying33 info3' rfl .i64 .i64 n (by omega) (by omega)]
  have e : madeCells #[Value.int .i64 0] n = Array.replicate n (.int .i64 0) := by
    rw [← List.toArray_replicate, ← toList_madeCells_one]
  rw [e]
theorem BF.gkl {w : World} {B p n : Nat} {F : Nat → Bool} {N G : Nat → Prop} (h : BF w B p n F G) (hN : ∀ z, z < w.heap.size → ¬ N z) : BF w B p n F (GK B N w) := by
  obtain ⟨S, ⟨V, h1, h2⟩, h3⟩ := h
  exact ⟨S, ⟨V, h1, fun j hj x hx => ⟨⟨((h1.hv j hj).lt x hx).1, ((h1.hv j hj).lt x hx).2, hN x ((h1.hv j hj).lt x hx).2⟩, own_typ (h1.hv j hj) hx⟩⟩, h3⟩
theorem sec_facts (n : Nat) (h : n ≤ 1024) : ∃ n8 n7 : Nat, IntKind.i64.wrap ((n : Int) + 8) = (n8 : Int) ∧ IntKind.i64.wrap ((n8 : Int) - 1) = (n7 : Int) ∧ Int.tdiv (n7 : Int) 8 = (sec n : Int) ∧ (n7 : Int) / 8 = (sec n : Int) ∧ n7 / 8 = sec n ∧ wrap64 (sec n : Int) = (sec n : Int) ∧ IntKind.i64.wrap (sec n : Int) = (sec n : Int) ∧ sec n ≤ 128 := by
  have hs : sec n ≤ 128 := by unfold sec; omega
  have e : (n + 7) / 8 = sec n := rfl
  refine ⟨n + 8, n + 7, ?_, ?_, ?_, ?_, e, IntWalk.wrap64_in _ (by omega), IntWalk.i64_in _ (by omega), hs⟩
  · rw [show (n : Int) + 8 = ((n + 8 : Nat) : Int) by omega]; exact IntWalk.i64_in _ (by omega)
  · rw [show ((n + 8 : Nat) : Int) - 1 = ((n + 7 : Nat) : Int) by omega]; exact IntWalk.i64_in _ (by omega)
  · rw [← e]; exact (Int.ofNat_tdiv (n + 7) 8).symm
  · rw [← e]; exact (Int.natCast_ediv (n + 7) 8).symm
theorem MetI.new (w : World) (n : Nat) (R : Array Value) (hR : Array.replicate n (.int .i64 0) = R) : MetI (w.alloc (.cells R 3)) w.heap.size n (fun _ => 0) :=
  ⟨R, heap_alloc_new w _, by rw [← hR]; simp, fun i hi => by rw [← hR]; simp [hi]⟩
theorem KO.new {w w1 : World} {b n : Nat} {R : Array Value} (h : BF w1 w.heap.size b n (upTo n) (fun x => w.heap.size ≤ x)) (hR : Array.replicate (sec n) (.int .i64 0) = R) (K : Keep (fun _ => False) w w1) :
    KO ((w1.alloc (.cells R 3)).alloc (.cells #[.pointer (some ⟨b, 0, none⟩), .int .i64 n, .slice (some ⟨w1.heap.size, 0, none⟩) (sec n) (sec n)] 69)) w.heap.size (w1.heap.size + 1) b w1.heap.size n (upTo n) (fun _ => 0) (fun z => z = w1.heap.size) := by
  have K2 : Keep (fun _ => False) w1 ((w1.alloc (.cells R 3)).alloc (.cells #[.pointer (some ⟨b, 0, none⟩), .int .i64 n, .slice (some ⟨w1.heap.size, 0, none⟩) (sec n) (sec n)] 69)) := ((Keep.refl _ _).alloc _).alloc _
  refine ⟨?_, (BF.keep0 (h.gkl (N := fun z => z = w1.heap.size) (fun z hz e => by omega)) K2).gk (fun z hz => hz.1.2.2), ?_, rfl, fun z hz => by subst hz; simp; omega, Nat.le_trans K.size K2.size⟩
  · have := heap_alloc_new (w1.alloc (.cells R 3)) (.cells #[.pointer (some ⟨b, 0, none⟩), .int .i64 n, .slice (some ⟨w1.heap.size, 0, none⟩) (sec n) (sec n)] 69)
    rw [World.size_alloc] at this
    exact this
  · exact (MetI.new w1 (sec n) R hR).keep (S := fun _ => False) ((Keep.refl _ _).alloc _) id
theorem KO.congr {w : World} {B k b kr n : Nat} {F : Nat → Bool} {M M' : Nat → Int} {N : Nat → Prop} (h : KO w B k b kr n F M N) (e : ∀ i, i < sec n → M i = M' i) : KO w B k b kr n F M' N :=
  ⟨h.hk, h.bf, h.mt.congr e, h.nk, h.nl, h.hB⟩

theorem setM_step (j i : Nat) : setM (fun i => if i < j then 1 else 0) j 1 i = if i < j + 1 then 1 else 0 := by
  unfold setM
  by_cases h1 : i = j
  · simp [h1]
  · by_cases h2 : i < j
    · simp [h1, h2]; omega
    · simp [h1, h2]; omega
theorem knew_bad (n : Int) (h : n < 8 ∨ 1024 < n) (w : World) : Calls Try.prog 27 #[.int .i64 n] w fun e w' => e = .returned (.tuple #[.pointer none, .int .i64 2]) ∧ Keep (fun _ => False) w w' := by
  have HB := Lib.hid h
  clear h
  go_enter Try.func27, Try.ntmps27
  go_wp2_with fail
  refine (new_bad n HB.out _).mono ?_
  rintro e w1 ⟨rfl, hk⟩
  go_wp2
  go_ret2
  exact ⟨rfl, (by (repeat (first | exact hk | exact Keep.refl _ _ | refine Keep.drew ?_ | refine Keep.drewN ?_ _ | refine Keep.alloc ?_ _ | refine Keep.setNew ?_ (by omega) _)); done)⟩
set_option maxRecDepth 100000 in
set_option maxHeartbeats 1000000 in
theorem knew_any (n : Nat) (h0 : 8 ≤ n) (h1 : n ≤ 1024) (w : World) : Calls Try.prog 27 #[.int .i64 (n : Int)] w fun e w' => ∃ k b kr, e = .returned (.tuple #[.pointer (some ⟨k, 0, none⟩), .int .i64 0]) ∧ KO w' w.heap.size k b kr n (upTo n) (fun _ => 1) (fun z => z = kr) ∧ w.heap.size ≤ k ∧ w.heap.size ≤ b ∧ w.heap.size ≤ kr ∧ Keep (fun _ => False) w w' := by
  obtain ⟨n8, n7, e1, e2, e3, e4, e5, e6, e7, hs⟩ := sec_facts n h1
  have HM := Lib.hid (And.intro h0 h1)
  obtain ⟨s, hse⟩ : ∃ s, sec n = s := ⟨_, rfl⟩
  have HSE := Lib.hid hse
  rw [hse] at e3 e4 e5 e6 e7 hs
  obtain ⟨R, hR⟩ : ∃ R, Array.replicate s (Value.int .i64 0) = R := ⟨_, rfl⟩
  have hmk := fun W => (make33 s (by omega) W)
  rw [hR] at hmk
  have HR : Hid (Array.replicate (sec n) (Value.int .i64 0) = R) := by unfold Hid; rw [HSE.out]; exact hR
  clear h0 h1 hse hR
  go_enter Try.func27, Try.ntmps27
  go_wp2_with fail
  refine (new_any n w.heap.size HM.out.1 HM.out.2 _ (Nat.le_refl _)).mono ?_
  rintro e w1 ⟨b, rfl, hb, hbl, hk1⟩
  have HK1 := Lib.hid hk1
  have HKO := Lib.hid (KO.new hb HR.out hk1)
  have HBL := Lib.hid hbl
  rw [HSE.out] at HKO
  have HKA : Hid (Keep (fun _ => False) w ((w1.alloc (.cells R 3)).alloc (.cells #[.pointer (some ⟨b, 0, none⟩), .int .i64 n, .slice (some ⟨w1.heap.size, 0, none⟩) s s] 69))) := (hk1.alloc _).alloc _
  clear hb hk1 hbl
  go_wp2
  have HKR : Hid (w.heap.size ≤ w1.heap.size) := HK1.out.size
  generalize (w1.alloc (.cells R 3)).alloc (.cells #[.pointer (some ⟨b, 0, none⟩), .int .i64 n, .slice (some ⟨w1.heap.size, 0, none⟩) s s] 69) = w2 at HKO HKA ⊢
  obtain ⟨kr, hkr⟩ : ∃ kr, w1.heap.size = kr := ⟨_, rfl⟩
  rw [hkr] at HKO HKR ⊢
  clear hkr e1 e2 e3 e4 e5 e6 e7 hmk HR HK1
  go_loopw [30] (fun i wr => ∃ j : Nat, j ≤ s ∧ i = .int .i64 (j : Int) ∧ KO wr w.heap.size (kr + 1) b kr n (upTo n) (fun i => if i < j then 1 else 0) (fun z => z = kr) ∧ Keep (fun _ => False) w wr) (fun i _ => s - (intOf i).toNat)
  case atStart => exact ⟨0, by omega, rfl, HKO.out.congr (fun i _ => by simp), HKA.out⟩
  case round =>
    obtain ⟨j, hj, rfl, hI, hk⟩ := hrel
    have HI := Lib.hid hI
    have HK := Lib.hid hk
    clear hI hk HKO HKA
    by_cases hjn : j < s
    · have j0 : (0 : Int) ≤ j := Int.natCast_nonneg j
      have j1 : (j : Int) < (s : Int) := by omega
      have j2 : (j : Int) < 1024 := by omega
      obtain ⟨z0, z1, z2⟩ := cells3 HI.out.hk
      have cm := HI.out.mt.cell (i := j) (by rw [HSE.out]; exact hjn)
      have fr := HI.out.mt.frozen j
      rw [HSE.out] at z2
      go_wp2
      go_roundw
      case rel => exact ⟨j + 1, by omega, by go_num, (HI.out.setM (i := j) 1).1.congr (fun i _ => setM_step j i), HK.out.setNew HKR.out _⟩
      case measure => simp [intOf]; omega
    · obtain rfl : j = s := by omega
      have j1 : ¬ (j : Int) < (j : Int) := by omega
      go_wp2
      go_ret2
      exact ⟨kr + 1, rfl, b, kr, HI.out.congr (fun i hi => by rw [HSE.out] at hi; rw [if_pos hi]), Nat.le_succ_of_le HKR.out, HBL.out, HKR.out, HK.out⟩

end Go.Proofs.Ytnjcchgbkemekaa
