/- ResvOne: the walk. -/
import Derived.Test.YtmbgebmhdofdaaaAE
set_option linter.unusedVariables false
set_option linter.unusedSimpArgs false
namespace Go.Proofs.Ytmbgebmhdofdaaa
open Go.RowKit Go.Own

theorem tsa0 : ∀ b : Fin 256, (bits .and .u8 ((b.val : Int)) 1 == 1) = decide (b.val / 1 % 2 = 1) := by decide +kernel
theorem tsa1 : ∀ b : Fin 256, (bits .and .u8 ((b.val : Int) / 2) 1 == 1) = decide (b.val / 2 % 2 = 1) := by decide +kernel
theorem tsa2 : ∀ b : Fin 256, (bits .and .u8 ((b.val : Int) / 4) 1 == 1) = decide (b.val / 4 % 2 = 1) := by decide +kernel
theorem tsa3 : ∀ b : Fin 256, (bits .and .u8 ((b.val : Int) / 8) 1 == 1) = decide (b.val / 8 % 2 = 1) := by decide +kernel
theorem tsa4 : ∀ b : Fin 256, (bits .and .u8 ((b.val : Int) / 16) 1 == 1) = decide (b.val / 16 % 2 = 1) := by decide +kernel
theorem tsa5 : ∀ b : Fin 256, (bits .and .u8 ((b.val : Int) / 32) 1 == 1) = decide (b.val / 32 % 2 = 1) := by decide +kernel
theorem tsa6 : ∀ b : Fin 256, (bits .and .u8 ((b.val : Int) / 64) 1 == 1) = decide (b.val / 64 % 2 = 1) := by decide +kernel
theorem tsa7 : ∀ b : Fin 256, (bits .and .u8 ((b.val : Int) / 128) 1 == 1) = decide (b.val / 128 % 2 = 1) := by decide +kernel

def pcN (b : Nat) : Nat → Nat
  | 0 => 0
  | k + 1 => pcN b k + if b / 2 ^ k % 2 = 1 then 1 else 0
theorem opN_pc (f : Int) (b : Nat) : ∀ k, (opN f b k).length + pcN b k = k := by
  intro k
  induction k with
  | zero => rfl
  | succ k ih =>
    simp only [opN, pcN, List.length_append]
    by_cases h : b / 2 ^ k % 2 = 0
    · rw [if_pos h, if_neg (by omega)]; simp; omega
    · rw [if_neg h, if_pos (by omega)]; simp; omega

set_option maxRecDepth 100000 in
set_option maxHeartbeats 4000000 in
theorem one_walk (la : Option Addr) (l c : Nat) (w : World) (hr : RowsAt w la l [.int .i64, .int .i64, .int .i64, .int .i64]) :
    Calls Try.prog 3 #[.slice la l c] w fun e w' => e = .returned (.bool true) ∧ Below w.heap.size w w' := by
  obtain ⟨A, rfl, hA⟩ := acts4_of_rows hr
  have H1 := Lib.hid hA
  clear hA hr
  go_enter Try.func3, Try.ntmps3
  go_wp2_with (first | (go_at_call 8; refine (made_any la A c _ H1.out).mono ?_; rintro e w1 ⟨p, q, rfl, hT, hk1⟩; have HT := Lib.hid hT; have HK1 := Lib.hid hk1; clear hT hk1) | (go_at_call 9; refine (awake_any _).mono ?_; rintro e w2 ⟨rfl, hk2⟩; have HT2 := Lib.hid (HT.out.keep0 hk2); have HK2 := Lib.hid (HK1.out.trans hk2); clear hk2))
  obtain ⟨v, vx, L, X, T, hV⟩ := HT2.out
  have hll := hV.ll
  refine (allL_any w.heap.size p v L _ hV.rc).mono ?_
  rintro e w3 ⟨v3, M, rfl, hP, hO3, hk3⟩
  have HR3 := Lib.hid (hV.rc.keep0 hk3)
  have HO3 := Lib.hid hO3
  have HK3 := Lib.hid (HK2.out.trans hk3)
  have HP := Lib.hid hP
  have HIV := Lib.hid hV.iv
  have hml : M.length ≤ 60 := by rw [hP.length_eq]; omega
  have HB : Hid (∀ x, x ∈ L → 0 ≤ x.f ∧ x.f < 100000 ∧ x.b < 256) := fun x hx => by
    obtain ⟨⟨_, _, _, _, h5, h6, _⟩, h8⟩ := hV.iv.okL x hx
    exact ⟨h5, by omega, h8⟩
  have HM : Hid (∀ x, x ∈ M → okR x.s x.p x.f ∧ x.b < 256) := fun x hx => hV.iv.okL x (hP.mem_iff.mp hx)
  have HAP : Hid (M.Pairwise (fun a b : Rv => (a.s ≠ b.s ∨ a.p ≠ b.p) ∧ a.f ≠ b.f)) := by
    refine ((hP.trans hV.iv.perm).pairwise_iff (fun {a b} e => ⟨e.1.imp Ne.symm Ne.symm, Ne.symm e.2⟩)).mpr ?_
    rw [List.pairwise_map]
    exact hV.iv.ap
  clear hO3 hk3 hP hV
  obtain ⟨a3, c3, rfl, hag3⟩ := HO3.out.slice
  have HAG := Lib.hid hag3
  clear hag3
  go_wp2
  go_loopw [7, 8] (fun nn i wr => ∃ k : Nat, k ≤ M.length ∧ i = .int .i64 k ∧ nn = .int .i64 (sumO (M.take k)) ∧ Keep (fun _ => False) w3 wr) (fun _ i _ => M.length - (intOf i).toNat)
  case atStart => exact ⟨0, by omega, rfl, by simp [sumO], Keep.refl _ _⟩
  case round =>
    obtain ⟨k, hk, rfl, rfl, hkeep⟩ := hrel
    have HK := Lib.hid hkeep
    clear hkeep
    by_cases hlt : k < M.length
    · obtain ⟨g, rfl⟩ := HAG.out (by intro e; rw [e] at hlt; simp at hlt)
      have hs0 := sumO_le (M.take k)
      rw [List.length_take] at hs0
      have hF : Hid (sumO (M.take (k + 1)) = sumO (M.take k) + (opN M[k].f M[k].b 8).length) := sumO_take hlt
      obtain ⟨sk, hsk⟩ : ∃ z, sumO (M.take k) = z := ⟨_, rfl⟩
      rw [hsk] at hF hs0 ⊢
      have HSK := Lib.hid hsk
      clear hsk
      obtain ⟨⟨m1, m2, m3, m4, m5, m6, m7⟩, m8⟩ := HM.out _ (List.getElem_mem hlt)
      have HMK := Lib.hid m8
      have HOKK := Lib.hid (And.intro m4 m7)
      clear m1 m4 m7 m8
      go_wp2
      -- the inner loop: no other of its page or frame
      go_loopw [9] (fun j wj => ∃ m : Nat, m ≤ k ∧ j = .int .i64 m ∧ Keep (fun _ => False) w3 wj) (fun j _ => k - (intOf j).toNat)
      case atStart => exact ⟨0, by omega, rfl, HK.out⟩
      case round =>
        obtain ⟨m, hm, rfl, hkeep⟩ := hrel
        have HKJ := Lib.hid hkeep
        clear hkeep
        obtain ⟨e0, e1, e2, e3⟩ := rv_cells (HO3.out.keep HKJ.out (fun _ _ => id)) hlt
        by_cases hmk : m < k
        · have hml2 : m < M.length := by omega
          obtain ⟨d0, d1, d2, d3⟩ := rv_cells (HO3.out.keep HKJ.out (fun _ _ => id)) hml2
          have hap := List.pairwise_iff_getElem.mp HAP.out m k hml2 hlt hmk
          have tf : (M[k].f == M[m].f) = false := by simp; exact fun e => hap.2 e.symm
          have hsp : M[k].s ≠ M[m].s ∨ (M[k].s = M[m].s ∧ M[k].p ≠ M[m].p) := by have := hap.1; omega
          rcases hsp with ts | ⟨ts, tp⟩
          · have ts' : (M[k].s == M[m].s) = false := by simpa using ts
            clear ts hap
            go_wp2
            go_quiet (fail)
            go_wp2
            go_roundw
            case rel => exact ⟨m + 1, by omega, by go_num, HKJ.out.drewN _⟩
            case measure => simp [intOf]; omega
          · have ts' : (M[k].s == M[m].s) = true := by simpa using ts
            have tp' : (M[k].p == M[m].p) = false := by simpa using tp
            clear ts tp hap
            go_wp2
            go_quiet (fail)
            go_wp2
            go_roundw
            case rel => exact ⟨m + 1, by omega, by go_num, HKJ.out.drewN _⟩
            case measure => simp [intOf]; omega
        · obtain rfl : m = k := by omega
          obtain ⟨b, hbb⟩ : ∃ b, M[m].b = b := ⟨_, rfl⟩
          have hmp : ((M[m].p % 8) != 0) = false := by simp; exact HOKK.out.1
          have hmf : ((M[m].f % 8) != 0) = false := by simp; exact HOKK.out.2
          have hb256 := HMK.out
          have HPC : Hid ((opN M[m].f M[m].b 8).length + pcN M[m].b 8 = 8) := opN_pc _ _ 8
          rw [hbb] at e3 hb256 HPC
          have HBB := Lib.hid hbb
          clear hbb HMK
          have hw8 : IntKind.i64.wrap (sk + 8) = sk + 8 := IntWalk.i64_in _ (by omega)
          go_wp2
          go_loopw [7, 10] (fun nn j wj => ∃ r : Nat, r ≤ 8 ∧ j = .int .i64 r ∧ ∃ d : Nat, d ≤ r ∧ nn = .int .i64 (sk + 8 - d) ∧ Hid (d = pcN b r) ∧ Keep (fun _ => False) w3 wj) (fun _ j _ => 8 - (intOf j).toNat)
          case atStart => exact ⟨0, by omega, rfl, 0, by omega, by simp, rfl, HKJ.out⟩
          case round =>
            obtain ⟨r, hr, rfl, d, hd, rfl, HD, hkeep⟩ := hrel
            have HKR := Lib.hid hkeep
            clear hkeep e0 e1 e2 e3
            obtain ⟨e0, e1, e2, e3⟩ := rv_cells (HO3.out.keep HKR.out (fun _ _ => id)) hlt
            rw [HBB.out] at e3
            have hc : r = 0 ∨ r = 1 ∨ r = 2 ∨ r = 3 ∨ r = 4 ∨ r = 5 ∨ r = 6 ∨ r = 7 ∨ r = 8 := by omega
            rcases hc with rfl | rfl | rfl | rfl | rfl | rfl | rfl | rfl | rfl
            · have ht := tsa0 ⟨b, hb256⟩
              simp only at ht
              by_cases e : b / 1 % 2 = 1
              · rw [decide_eq_true e] at ht
                have hF2 : Hid (d + 1 = pcN b (0 + 1)) := by unfold Hid; show d + 1 = pcN b 0 + _; rw [if_pos e, ← HD]
                have hw1 : IntKind.i64.wrap (sk + 8 - d - 1) = sk + 8 - (d + 1 : Nat) := by rw [show sk + 8 - (d : Int) - 1 = sk + 8 - ((d + 1 : Nat) : Int) by omega]; exact IntWalk.i64_in _ (by omega)
                clear e
                go_wp2
                go_roundw
                case rel => exact ⟨0 + 1, by omega, by go_num, d + 1, by omega, by go_num, hF2.out, HKR.out⟩
                case measure => simp [intOf]
              · rw [decide_eq_false e] at ht
                have hF2 : Hid (d = pcN b (0 + 1)) := by unfold Hid; show d = pcN b 0 + _; rw [if_neg e, ← HD]; rfl
                clear e
                go_wp2
                go_roundw
                case rel => exact ⟨0 + 1, by omega, by go_num, d, by omega, rfl, hF2.out, HKR.out⟩
                case measure => simp [intOf]
            · have ht := tsa1 ⟨b, hb256⟩
              simp only at ht
              by_cases e : b / 2 % 2 = 1
              · rw [decide_eq_true e] at ht
                have hF2 : Hid (d + 1 = pcN b (1 + 1)) := by unfold Hid; show d + 1 = pcN b 1 + _; rw [if_pos e, ← HD]
                have hw1 : IntKind.i64.wrap (sk + 8 - d - 1) = sk + 8 - (d + 1 : Nat) := by rw [show sk + 8 - (d : Int) - 1 = sk + 8 - ((d + 1 : Nat) : Int) by omega]; exact IntWalk.i64_in _ (by omega)
                clear e
                go_wp2
                go_roundw
                case rel => exact ⟨1 + 1, by omega, by go_num, d + 1, by omega, by go_num, hF2.out, HKR.out⟩
                case measure => simp [intOf]
              · rw [decide_eq_false e] at ht
                have hF2 : Hid (d = pcN b (1 + 1)) := by unfold Hid; show d = pcN b 1 + _; rw [if_neg e, ← HD]; rfl
                clear e
                go_wp2
                go_roundw
                case rel => exact ⟨1 + 1, by omega, by go_num, d, by omega, rfl, hF2.out, HKR.out⟩
                case measure => simp [intOf]
            · have ht := tsa2 ⟨b, hb256⟩
              simp only at ht
              by_cases e : b / 4 % 2 = 1
              · rw [decide_eq_true e] at ht
                have hF2 : Hid (d + 1 = pcN b (2 + 1)) := by unfold Hid; show d + 1 = pcN b 2 + _; rw [if_pos e, ← HD]
                have hw1 : IntKind.i64.wrap (sk + 8 - d - 1) = sk + 8 - (d + 1 : Nat) := by rw [show sk + 8 - (d : Int) - 1 = sk + 8 - ((d + 1 : Nat) : Int) by omega]; exact IntWalk.i64_in _ (by omega)
                clear e
                go_wp2
                go_roundw
                case rel => exact ⟨2 + 1, by omega, by go_num, d + 1, by omega, by go_num, hF2.out, HKR.out⟩
                case measure => simp [intOf]
              · rw [decide_eq_false e] at ht
                have hF2 : Hid (d = pcN b (2 + 1)) := by unfold Hid; show d = pcN b 2 + _; rw [if_neg e, ← HD]; rfl
                clear e
                go_wp2
                go_roundw
                case rel => exact ⟨2 + 1, by omega, by go_num, d, by omega, rfl, hF2.out, HKR.out⟩
                case measure => simp [intOf]
            · have ht := tsa3 ⟨b, hb256⟩
              simp only at ht
              by_cases e : b / 8 % 2 = 1
              · rw [decide_eq_true e] at ht
                have hF2 : Hid (d + 1 = pcN b (3 + 1)) := by unfold Hid; show d + 1 = pcN b 3 + _; rw [if_pos e, ← HD]
                have hw1 : IntKind.i64.wrap (sk + 8 - d - 1) = sk + 8 - (d + 1 : Nat) := by rw [show sk + 8 - (d : Int) - 1 = sk + 8 - ((d + 1 : Nat) : Int) by omega]; exact IntWalk.i64_in _ (by omega)
                clear e
                go_wp2
                go_roundw
                case rel => exact ⟨3 + 1, by omega, by go_num, d + 1, by omega, by go_num, hF2.out, HKR.out⟩
                case measure => simp [intOf]
              · rw [decide_eq_false e] at ht
                have hF2 : Hid (d = pcN b (3 + 1)) := by unfold Hid; show d = pcN b 3 + _; rw [if_neg e, ← HD]; rfl
                clear e
                go_wp2
                go_roundw
                case rel => exact ⟨3 + 1, by omega, by go_num, d, by omega, rfl, hF2.out, HKR.out⟩
                case measure => simp [intOf]
            · have ht := tsa4 ⟨b, hb256⟩
              simp only at ht
              by_cases e : b / 16 % 2 = 1
              · rw [decide_eq_true e] at ht
                have hF2 : Hid (d + 1 = pcN b (4 + 1)) := by unfold Hid; show d + 1 = pcN b 4 + _; rw [if_pos e, ← HD]
                have hw1 : IntKind.i64.wrap (sk + 8 - d - 1) = sk + 8 - (d + 1 : Nat) := by rw [show sk + 8 - (d : Int) - 1 = sk + 8 - ((d + 1 : Nat) : Int) by omega]; exact IntWalk.i64_in _ (by omega)
                clear e
                go_wp2
                go_roundw
                case rel => exact ⟨4 + 1, by omega, by go_num, d + 1, by omega, by go_num, hF2.out, HKR.out⟩
                case measure => simp [intOf]
              · rw [decide_eq_false e] at ht
                have hF2 : Hid (d = pcN b (4 + 1)) := by unfold Hid; show d = pcN b 4 + _; rw [if_neg e, ← HD]; rfl
                clear e
                go_wp2
                go_roundw
                case rel => exact ⟨4 + 1, by omega, by go_num, d, by omega, rfl, hF2.out, HKR.out⟩
                case measure => simp [intOf]
            · have ht := tsa5 ⟨b, hb256⟩
              simp only at ht
              by_cases e : b / 32 % 2 = 1
              · rw [decide_eq_true e] at ht
                have hF2 : Hid (d + 1 = pcN b (5 + 1)) := by unfold Hid; show d + 1 = pcN b 5 + _; rw [if_pos e, ← HD]
                have hw1 : IntKind.i64.wrap (sk + 8 - d - 1) = sk + 8 - (d + 1 : Nat) := by rw [show sk + 8 - (d : Int) - 1 = sk + 8 - ((d + 1 : Nat) : Int) by omega]; exact IntWalk.i64_in _ (by omega)
                clear e
                go_wp2
                go_roundw
                case rel => exact ⟨5 + 1, by omega, by go_num, d + 1, by omega, by go_num, hF2.out, HKR.out⟩
                case measure => simp [intOf]
              · rw [decide_eq_false e] at ht
                have hF2 : Hid (d = pcN b (5 + 1)) := by unfold Hid; show d = pcN b 5 + _; rw [if_neg e, ← HD]; rfl
                clear e
                go_wp2
                go_roundw
                case rel => exact ⟨5 + 1, by omega, by go_num, d, by omega, rfl, hF2.out, HKR.out⟩
                case measure => simp [intOf]
            · have ht := tsa6 ⟨b, hb256⟩
              simp only at ht
              by_cases e : b / 64 % 2 = 1
              · rw [decide_eq_true e] at ht
                have hF2 : Hid (d + 1 = pcN b (6 + 1)) := by unfold Hid; show d + 1 = pcN b 6 + _; rw [if_pos e, ← HD]
                have hw1 : IntKind.i64.wrap (sk + 8 - d - 1) = sk + 8 - (d + 1 : Nat) := by rw [show sk + 8 - (d : Int) - 1 = sk + 8 - ((d + 1 : Nat) : Int) by omega]; exact IntWalk.i64_in _ (by omega)
                clear e
                go_wp2
                go_roundw
                case rel => exact ⟨6 + 1, by omega, by go_num, d + 1, by omega, by go_num, hF2.out, HKR.out⟩
                case measure => simp [intOf]
              · rw [decide_eq_false e] at ht
                have hF2 : Hid (d = pcN b (6 + 1)) := by unfold Hid; show d = pcN b 6 + _; rw [if_neg e, ← HD]; rfl
                clear e
                go_wp2
                go_roundw
                case rel => exact ⟨6 + 1, by omega, by go_num, d, by omega, rfl, hF2.out, HKR.out⟩
                case measure => simp [intOf]
            · have ht := tsa7 ⟨b, hb256⟩
              simp only at ht
              by_cases e : b / 128 % 2 = 1
              · rw [decide_eq_true e] at ht
                have hF2 : Hid (d + 1 = pcN b (7 + 1)) := by unfold Hid; show d + 1 = pcN b 7 + _; rw [if_pos e, ← HD]
                have hw1 : IntKind.i64.wrap (sk + 8 - d - 1) = sk + 8 - (d + 1 : Nat) := by rw [show sk + 8 - (d : Int) - 1 = sk + 8 - ((d + 1 : Nat) : Int) by omega]; exact IntWalk.i64_in _ (by omega)
                clear e
                go_wp2
                go_roundw
                case rel => exact ⟨7 + 1, by omega, by go_num, d + 1, by omega, by go_num, hF2.out, HKR.out⟩
                case measure => simp [intOf]
              · rw [decide_eq_false e] at ht
                have hF2 : Hid (d = pcN b (7 + 1)) := by unfold Hid; show d = pcN b 7 + _; rw [if_neg e, ← HD]; rfl
                clear e
                go_wp2
                go_roundw
                case rel => exact ⟨7 + 1, by omega, by go_num, d, by omega, rfl, hF2.out, HKR.out⟩
                case measure => simp [intOf]
            · have hF3 : Hid (sk + 8 - (d : Int) = sumO (M.take (m + 1))) := by
                have h1 := HPC.out
                have h2 : (d : Nat) = pcN b 8 := HD
                unfold Hid; rw [hF.out, HBB.out]; omega
              go_wp2
              go_roundw
              case rel => exact ⟨m + 1, by omega, by go_num, by rw [hF3.out], HKR.out⟩
              case measure => simp [intOf]; omega
    · obtain rfl : k = M.length := by omega
      rw [List.take_length]
      have HE : Hid (sumO M = sumO L) := sumO_perm HP.out
      go_wp2_with (go_at_call 11; refine (heldL_any w.heap.size p v L HB.out _ (HR3.out.keep0 HK.out)).mono ?_; rintro e w5 ⟨rfl, hk5⟩)
      go_ret
      exact ⟨ret_bool (by rw [HE.out]; simp), ((HK3.out.trans HK.out).trans hk5).below⟩

end Go.Proofs.Ytmbgebmhdofdaaa
