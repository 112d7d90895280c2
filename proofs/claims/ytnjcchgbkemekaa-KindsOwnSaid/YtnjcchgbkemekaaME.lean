/- Kinds: KindsOwn, the walk. -/
import Derived.Test.YtnjcchgbkemekaaMB
import Derived.Test.YtnjcchgbkemekaaMD
set_option linter.unusedVariables false
set_option linter.unusedSimpArgs false
namespace Go.Proofs.Ytnjcchgbkemekaa
open Go.RowKit Go.Own

def thB (M : Nat → Int) (x : Int) (o : Nat) (L : List Bk) : Bool := L.any fun y => decide ((o : Int) ≤ y.o) && decide (M (y.f.toNat / 8) = x)
theorem thB_take {M : Nat → Int} {x : Int} {o j : Nat} {L : List Bk} (hj : j < L.length) : thB M x o (L.take (j + 1)) = (thB M x o (L.take j) || (decide ((o : Int) ≤ (L[j]).o) && decide (M ((L[j]).f.toNat / 8) = x))) := by
  unfold thB
  rw [List.take_succ_eq_append_getElem hj, List.any_append]
  simp
theorem thB_iff {M : Nat → Int} {x : Int} {o : Nat} {D : List Bk} : thB M x o (pcs M D) = true ↔ ∃ y, y ∈ pcO M D o ∧ M (y.f.toNat / 8) = x := by
  unfold thB pcO
  rw [List.any_eq_true]
  constructor
  · rintro ⟨y, h1, h2⟩
    simp only [Bool.and_eq_true, decide_eq_true_eq] at h2
    exact ⟨y, List.mem_filter.mpr ⟨h1, by simpa using h2.1⟩, h2.2⟩
  · rintro ⟨y, h1, h2⟩
    obtain ⟨h3, h4⟩ := List.mem_filter.mp h1
    exact ⟨y, h3, by simp only [Bool.and_eq_true]; exact ⟨h4, by simpa using h2⟩⟩
theorem th_true {M : Nat → Int} {x : Int} {o : Nat} {D : List Bk} (hx : x = 0 ∨ x = 1 ∨ x = 2) (h : thB M x o (pcs M D) = true) : ∃ y, tkP M D o x = some (y, true) ∧ M (y.f.toNat / 8) = x := by
  obtain ⟨z, hz, hm⟩ := thB_iff.mp h
  cases ht : tkP M D o x with
  | none => have := tkP_none ht hx z hz; omega
  | some p =>
    obtain ⟨y, own⟩ := p
    obtain ⟨_, _, ⟨rfl, h1⟩ | ⟨_, _, h2⟩⟩ := tkP_some ht hx
    · exact ⟨y, rfl, h1⟩
    · exact absurd hm (h2 z hz)
theorem th_false {M : Nat → Int} {x : Int} {o : Nat} {D : List Bk} {y : Bk} {own : Bool} (hx : x = 0 ∨ x = 1 ∨ x = 2) (h : thB M x o (pcs M D) = false) (ht : tkP M D o x = some (y, own)) : M (y.f.toNat / 8) ≠ x := by
  intro e
  have := thB_iff.mpr ⟨y, (tkP_some ht hx).1, e⟩
  rw [h] at this; cases this
theorem d_of2 {w : World} {A : Ad} {F F' : Nat → Bool} {M M' : Nat → Int} {f : Nat} (h : Duo w A F M F' M') (hf : f < A.n) : Calls Try.prog 16 #[.pointer (some ⟨A.X, 0, none⟩), .int .i64 (f : Int)] w fun e w' => e = .returned (.int .i64 (M' (f / 8))) ∧ Keep (fun _ => False) w w' := by
  refine (of_in h.rk hf).mono ?_
  rintro e w' ⟨rfl, rfl⟩
  exact ⟨rfl, Keep.refl _ _⟩
theorem d_kind2 {w : World} {A : Ad} {F F' : Nat → Bool} {M M' : Nat → Int} {f : Nat} (h : Duo w A F M F' M') (hf : f < A.n) : Calls Try.prog 17 #[.pointer (some ⟨A.k, 0, none⟩), .int .i64 (f : Int)] w fun e w' => e = .returned (.int .i64 (M (f / 8))) ∧ Keep (fun _ => False) w w' := by
  refine (kind_in h.ko hf).mono ?_
  rintro e w' ⟨rfl, rfl⟩
  exact ⟨rfl, Keep.refl _ _⟩

set_option maxRecDepth 100000 in
set_option maxHeartbeats 4000000 in
theorem own_walk (n : Int) (la : Option Addr) (l c : Nat) (od kd : Int) (w : World) (hr : RowsAt w la l [.int .i64, .int .i64, .int .i64, .int .i64, .int .i64]) (ho : (Lit.int .u8 od).wf = true) (hk : (Lit.int .u8 kd).wf = true) :
    Calls Try.prog 4 #[.agg #[.int .i64 n, .slice la l c, .int .u8 od, .int .u8 kd]] w fun e w' => e = .returned (.bool true) ∧ Below w.heap.size w w' := by
  obtain ⟨L, rfl, hA⟩ := acts5_of_rows hr
  obtain ⟨od, rfl, hod⟩ := u8_of ho
  obtain ⟨kd, rfl, hkd⟩ := u8_of hk
  have HOD := Lib.hid (And.intro hod hkd)
  have HA0 := Lib.hid hA
  clear hA hr ho hk hod hkd
  have hbx := heap_alloc_new w (.cells #[.int .i64 n, .slice la L.length c, .int .u8 (od : Int), .int .u8 (kd : Int)] 24)
  have b0 : (w.alloc (.cells #[.int .i64 n, .slice la L.length c, .int .u8 (od : Int), .int .u8 (kd : Int)] 24)).cell? ⟨w.heap.size, 0, none⟩ = some (.int .i64 n) := by simp [cell_block hbx]
  have b1 : (w.alloc (.cells #[.int .i64 n, .slice la L.length c, .int .u8 (od : Int), .int .u8 (kd : Int)] 24)).cell? ⟨w.heap.size, 1, none⟩ = some (.slice la L.length c) := by simp [cell_block hbx]
  have b2 : (w.alloc (.cells #[.int .i64 n, .slice la L.length c, .int .u8 (od : Int), .int .u8 (kd : Int)] 24)).cell? ⟨w.heap.size, 2, none⟩ = some (.int .u8 (od : Int)) := by simp [cell_block hbx]
  have b3 : (w.alloc (.cells #[.int .i64 n, .slice la L.length c, .int .u8 (od : Int), .int .u8 (kd : Int)] 24)).cell? ⟨w.heap.size, 3, none⟩ = some (.int .u8 (kd : Int)) := by simp [cell_block hbx]
  clear hbx
  go_enter Try.func4, Try.ntmps4
  go_wp2
  go_quiet (fail)
  generalize hw0 : World.drewN _ _ = w0
  have HK0 : Hid (Keep (fun _ => False) w w0) := by rw [← hw0]; exact (by (repeat (first | exact Keep.refl _ _ | exact Keep.refl _ _ | refine Keep.drew ?_ | refine Keep.drewN ?_ _ | refine Keep.alloc ?_ _ | refine Keep.setNew ?_ (by omega) _)); done)
  clear hw0 b0 b1 b2 b3
  have H1 := Lib.hid (HA0.out.up (Up.of HK0.out))
  clear HA0
  rcases sm_is n with hb | ⟨m, hm, h8, hm4⟩
  · have HB := Lib.hid hb
    clear hb
    go_wp2_with fail
    refine (kmade_bad n HB.out _).mono ?_
    rintro e w2 ⟨rfl, hk2⟩
    have HK2 : Hid (Keep (fun _ => False) w0 w2) := Keep.trans (by (repeat (first | exact Keep.refl _ _ | exact Keep.refl _ _ | refine Keep.drew ?_ | refine Keep.drewN ?_ _ | refine Keep.alloc ?_ _ | refine Keep.setNew ?_ (by omega) _)); done) hk2
    clear hk2
    go_wp2_with fail
    refine (awake_any _).mono ?_
    rintro e w3 ⟨rfl, hk3⟩
    have HK3 : Hid (Keep (fun _ => False) w0 w3) := HK2.out.trans (Keep.trans (by (repeat (first | exact Keep.refl _ _ | exact Keep.refl _ _ | refine Keep.drew ?_ | refine Keep.drewN ?_ _ | refine Keep.alloc ?_ _ | refine Keep.setNew ?_ (by omega) _)); done) hk3)
    clear hk3
    go_wp2_with fail
    refine (awake_any _).mono ?_
    rintro e w4 ⟨rfl, hk4⟩
    have HK4 : Hid (Keep (fun _ => False) w0 w4) := HK3.out.trans (Keep.trans (by (repeat (first | exact Keep.refl _ _ | exact Keep.refl _ _ | refine Keep.drew ?_ | refine Keep.drewN ?_ _ | refine Keep.alloc ?_ _ | refine Keep.setNew ?_ (by omega) _)); done) hk4)
    clear hk4
    go_wp2
    go_ret
    exact ⟨rfl, (Up.of (HK0.out.trans HK4.out)).below⟩
  · have HM := Lib.hid (And.intro h8 hm4)
    clear h8 hm4
    go_wp2_with fail
    refine (kmade_any2 n m hm HM.out.1 HM.out.2 _).mono ?_
    rintro e w2 ⟨A, q, rfl, hn, hI2, v2, hS2⟩
    have HI2 := Lib.hid hI2
    have HAN := Lib.hid hn
    have HS2 := Lib.hid hS2
    clear hI2 hn hS2 hm
    go_wp2_with fail
    refine (awake_any _).mono ?_
    rintro e w3 ⟨rfl, hk3⟩
    have HI3 := Lib.hid (HI2.out.keep0 (Keep.trans (by (repeat (first | exact Keep.refl _ _ | exact Keep.refl _ _ | refine Keep.drew ?_ | refine Keep.drewN ?_ _ | refine Keep.alloc ?_ _ | refine Keep.setNew ?_ (by omega) _)); done) hk3))
    have HS3 := Lib.hid (HS2.out.keep0 (Keep.trans (by (repeat (first | exact Keep.refl _ _ | exact Keep.refl _ _ | refine Keep.drew ?_ | refine Keep.drewN ?_ _ | refine Keep.alloc ?_ _ | refine Keep.setNew ?_ (by omega) _)); done) hk3))
    clear hk3 HI2 HS2
    clear HS3
    go_wp2
    go_loopw [9] (fun i wr => ∃ k : Nat, k ≤ L.length ∧ k ≤ 60 ∧ i = .int .i64 (k : Int) ∧ LoopI w0 wr A q k) (fun i _ => 60 - (intOf i).toNat)
    case atStart => exact ⟨0, by omega, by omega, rfl, HI3.out⟩
    case round =>
      obtain ⟨k, hkA, hk60, rfl, hI⟩ := hrel
      have HI := Lib.hid hI
      clear hI HI3
      by_cases hlt : k < L.length ∧ k < 60
      · obtain ⟨hlt, hlt3⟩ := hlt
        obtain ⟨b, o, rfl, hc⟩ := (H1.out.up HI.out.up) k hlt
        obtain ⟨y, hy⟩ : ∃ y, L[k]'hlt = y := ⟨_, rfl⟩
        rw [hy] at hc
        obtain ⟨yk, yf, yo, yy, yn⟩ := y
        obtain ⟨c0, c1, c2, c3, c4, hf⟩ := hc
        have HF := Lib.hid hf
        have k0 : (0 : Int) ≤ k := Int.natCast_nonneg k
        have k1 : (k : Int) < L.length := Int.ofNat_lt.mpr hlt
        clear hf hy
        go_wp2_with (go_at_call 10; refine ((HI.out.keep0 (by (repeat (first | exact Keep.refl _ _ | exact Keep.refl _ _ | refine Keep.drew ?_ | refine Keep.drewN ?_ _ | refine Keep.alloc ?_ _ | refine Keep.setNew ?_ (by omega) _)); done)).do (by omega) yk yf yo yy yn HF.out).mono ?_; rintro e w5 ⟨rfl, hI5⟩; have HI5 := Lib.hid hI5; clear hI5)
        go_roundw
        case rel => exact ⟨k + 1, by omega, by omega, by go_num, HI5.out⟩
        case measure => simp [intOf]; omega
      · have hkk : k = L.length ∨ (k < L.length ∧ k = 60) := by omega
        clear hlt
        obtain ⟨hB, F, M, T, ⟨v, hS, hT, hM⟩, hl, hu⟩ := HI.out
        have HS := Lib.hid hS
        have HMO := Lib.hid hM
        have HU := Lib.hid (up_base HK0.out hu)
        have HBW : Hid (w.heap.size ≤ A.B) := by unfold Hid; rw [hB]; exact HK0.out.size
        have HQ := Lib.hid (qc_of hS)
        have HFN : Hid (∀ i, F i = true → i < A.n) := hS.duo.ko.bf.fin
        have HN : Hid (8 ≤ A.n ∧ A.n ≤ 1024) := hS.duo.rk.n8
        obtain ⟨z0, z1, z2, z3⟩ := HQ.out
        clear hS hT hM hl hu hB HI H1
        obtain ⟨o, ho⟩ : ∃ o, od % 4 = o := ⟨_, rfl⟩
        obtain ⟨x, hx⟩ : ∃ x, kd % 3 = x := ⟨_, rfl⟩
        have HO8 : Hid (o ≤ 8) := by unfold Hid; omega
        have e9 : (od : Int) % 4 = (o : Int) := by omega
        have e3 : (kd : Int) % 3 = (x : Int) := by omega
        have HX : Hid ((x : Int) = 0 ∨ (x : Int) = 1 ∨ (x : Int) = 2) := by unfold Hid; omega
        have hwo : IntKind.i64.wrap (o : Int) = (o : Int) := IntWalk.i64_in _ (by omega)
        have hwx : IntKind.i64.wrap (x : Int) = (x : Int) := IntWalk.i64_in _ (by omega)
        clear ho hx
        rcases hkk with hkk | ⟨hkl, hkk⟩
        all_goals
          subst hkk
          go_wp2_with (go_at_call 15; refine (rpieces_any (HS.out.keep0 (by (repeat (first | exact Keep.refl _ _ | exact Keep.refl _ _ | refine Keep.drew ?_ | refine Keep.drewN ?_ _ | refine Keep.alloc ?_ _ | refine Keep.setNew ?_ (by omega) _)); done)).duo.rk HFN.out).mono ?_; rintro e w5 ⟨v5, D5, rfl, hI5, hO5, hl5, hk5⟩; have HO5 := Lib.hid hO5; have HI5 := Lib.hid hI5; have HL5 := Lib.hid hl5; have HK5 : Hid (Keep (fun _ => False) wr w5) := Keep.trans (by (repeat (first | exact Keep.refl _ _ | exact Keep.refl _ _ | refine Keep.drew ?_ | refine Keep.drewN ?_ _ | refine Keep.alloc ?_ _ | refine Keep.setNew ?_ (by omega) _)); done) hk5; clear hk5 hO5 hI5 hl5)
          have HZ5 := Lib.hid (qc_keep HQ.out HK5.out)
          have HHS5 : Hid (St w5 A q F M F M v T) := HS.out.keep0 HK5.out
          obtain ⟨a5, c5, rfl, hag⟩ := HO5.out.slice
          have HAG := Lib.hid hag
          obtain ⟨P, hP⟩ : ∃ P, pcs M D5 = P := ⟨_, rfl⟩
          rw [hP] at HAG HO5 HL5
          have HPF : Hid (∀ y, y ∈ P → fineP F A.n y) := fun y hy => pcs_fine HI5.out HFN.out (M := M) (by rw [hP]; exact hy)
          have HPE := Lib.hid hP
          rw [hP]
          clear hag z0 z1 z2 z3 hP
          go_loopw [12, 14] (fun t i w6 => ∃ j : Nat, j ≤ P.length ∧ i = .int .i64 (j : Int) ∧ t = .bool (thB M x o (P.take j)) ∧ Keep (fun _ => False) w5 w6) (fun _ i _ => P.length - (intOf i).toNat)
          case atStart => exact ⟨0, Nat.zero_le _, rfl, rfl, Keep.refl _ _⟩
          case round =>
            obtain ⟨j, hjP, rfl, rfl, hk6⟩ := hrel
            have HK6 := Lib.hid hk6
            clear hk6
            obtain ⟨z0, z1, z2, z3⟩ := qc_keep HZ5.out HK6.out
            have HZ6 := Lib.hid (And.intro z0 (And.intro z1 (And.intro z2 z3)))
            obtain ⟨bb, hbb⟩ : ∃ bb, thB M x o (P.take j) = bb := ⟨_, rfl⟩
            have e8 : IntKind.i64.wrap ((j : Int) + 1) = (j : Int) + 1 := IntWalk.i64_in _ (by have := HL5.out; omega)
            by_cases hlt : j < P.length
            · have i1 : (j : Int) < P.length := by omega
              have HJ : Hid (j + 1 ≤ P.length) := hlt
              obtain ⟨g5, rfl⟩ := HAG.out (by intro e; rw [e] at hlt; simp at hlt)
              obtain ⟨c0, c1⟩ := bk_cells (HO5.out.keep HK6.out (fun _ _ => id)) hlt
              have hth := thB_take (M := M) (x := x) (o := o) hlt
              obtain ⟨y, hy⟩ : ∃ y, P[j]'hlt = y := ⟨_, rfl⟩
              have hpf := HPF.out _ (List.getElem_mem hlt)
              rw [hy] at c0 c1 hth hpf
              obtain ⟨a, k, rfl, hk8, hak, hbl, hend⟩ := hpf
              have HAN2 : Hid (a < A.n) := by unfold Hid; have := p2 k; omega
              simp only [Int.toNat_natCast] at hth
              rw [hbb] at hth ⊢
              have HTH := Lib.hid hth
              clear hth hbb hy hk8 hak hbl hend
              cases bb with
              | true =>
                go_wp2
                go_quiet (fail)
                go_wp2
                go_roundw
                case rel => exact ⟨j + 1, HJ.out, by go_num, by rw [HTH.out]; simp, (by (repeat (first | exact HK6.out | exact Keep.refl _ _ | refine Keep.drew ?_ | refine Keep.drewN ?_ _ | refine Keep.alloc ?_ _ | refine Keep.setNew ?_ (by omega) _)); done)⟩
                case measure => simp [intOf]; omega
              | false =>
                by_cases hko : o ≤ k
                · have HKO : Hid (o ≤ k) := hko
                  have t0 : decide ((o : Int) ≤ (k : Int)) = true := by simp; omega
                  have t1 : decide (o ≤ k) = true := by simp; omega
                  obtain ⟨ms, hms⟩ : ∃ ms, M (a / 8) = ms := ⟨_, rfl⟩
                  have HOF : Hid (∀ W, Keep (fun _ => False) w5 W → Calls Try.prog 16 #[.pointer (some ⟨A.X, 0, none⟩), .int .i64 (a : Int)] W fun e w' => e = .returned (.int .i64 ms) ∧ w' = W) := fun W KW => by
                    rw [← hms]; exact of_in (HHS5.out.keep0 KW).duo.rk HAN2.out
                  have hth := HTH.out
                  simp only [hms] at hth
                  clear HTH
                  have HTH := Lib.hid hth
                  clear hth hms hko
                  by_cases he : ms = (x : Int)
                  · have t2 : (ms == (x : Int)) = true := by simpa using he
                    clear he
                    go_wp2
                    go_quiet ((go_at_call 16; exact Calls.quiet_of_same (HOF.out _ (by (repeat (first | exact HK6.out | exact Keep.refl _ _ | refine Keep.drew ?_ | refine Keep.drewN ?_ _ | refine Keep.alloc ?_ _ | refine Keep.setNew ?_ (by omega) _)); done))))
                    go_wp2
                    go_roundw
                    case rel => exact ⟨j + 1, HJ.out, by go_num, by rw [HTH.out]; simp; exact ⟨HKO.out, by simpa using t2⟩, (by (repeat (first | exact HK6.out | exact Keep.refl _ _ | refine Keep.drew ?_ | refine Keep.drewN ?_ _ | refine Keep.alloc ?_ _ | refine Keep.setNew ?_ (by omega) _)); done)⟩
                    case measure => simp [intOf]; omega
                  · have t2 : (ms == (x : Int)) = false := by simpa using he
                    clear he
                    go_wp2
                    go_quiet ((go_at_call 16; exact Calls.quiet_of_same (HOF.out _ (by (repeat (first | exact HK6.out | exact Keep.refl _ _ | refine Keep.drew ?_ | refine Keep.drewN ?_ _ | refine Keep.alloc ?_ _ | refine Keep.setNew ?_ (by omega) _)); done))))
                    go_wp2
                    go_roundw
                    case rel => exact ⟨j + 1, HJ.out, by go_num, by rw [HTH.out]; simp; intro _; simpa using t2, (by (repeat (first | exact HK6.out | exact Keep.refl _ _ | refine Keep.drew ?_ | refine Keep.drewN ?_ _ | refine Keep.alloc ?_ _ | refine Keep.setNew ?_ (by omega) _)); done)⟩
                    case measure => simp [intOf]; omega
                · have t0 : decide ((o : Int) ≤ (k : Int)) = false := by simp; omega
                  have t1 : decide (o ≤ k) = false := by simp; omega
                  clear hko
                  go_wp2
                  go_quiet (fail)
                  go_wp2
                  go_roundw
                  case rel => exact ⟨j + 1, HJ.out, by go_num, by rw [HTH.out]; simp; intro h; simp at t1; omega, (by (repeat (first | exact HK6.out | exact Keep.refl _ _ | refine Keep.drew ?_ | refine Keep.drewN ?_ _ | refine Keep.alloc ?_ _ | refine Keep.setNew ?_ (by omega) _)); done)⟩
                  case measure => simp [intOf]; omega
            · obtain rfl : j = P.length := by omega
              rw [List.take_length] at hbb
              rw [List.take_length, hbb]
              have HBB := Lib.hid hbb
              clear hlt hbb
              have HK6' := Lib.hid (HK5.out.trans HK6.out)
              have HS6 := Lib.hid (HS.out.keep0 HK6'.out)
              go_wp2_with fail
              have HU6 : Hid (Up w.heap.size w wr) := Keep.trans HU.out (Up.of HK6'.out)
              refine (ktake_one o x HS6.out.duo.ko HO8.out HX.out).mono ?_
              rintro e w8 ⟨ra, er, rfl, D, hD, hcase⟩
              obtain rfl := isBl_eq hD HI5.out
              clear z0 z1 z2 z3 hD e9 e3 hwo hwx e8
              rcases hcase with ⟨ht, rfl, rfl, hk8⟩ | ⟨y, own, ht, rfl, rfl, hko8, hk8⟩
              · have HU8 : Hid (Up w.heap.size w w8) := Keep.trans HU6.out (Up.of hk8)
                cases bb with
                | true =>
                  obtain ⟨y, hy, _⟩ := th_true HX.out (by rw [HPE.out]; exact HBB.out)
                  rw [ht] at hy; cases hy
                | false =>
                  clear ht hk8
                  go_wp2
                  go_ret
                  exact ⟨rfl, Up.below HU8.out⟩
              · obtain ⟨⟨a, k, rfl, hk8', hak, hbk, hend⟩, hok⟩ := tkP_fine HI5.out HFN.out ht
                have HAN2 : Hid (a < A.n) := by unfold Hid; have := p2 k; omega
                obtain ⟨d8, K8⟩ := HS6.out.duo.prog hko8 hk8
                have HS8 := Lib.hid (HS6.out.on K8 d8)
                have HU8 : Hid (Up w.heap.size w w8) := Keep.trans HU6.out ((ku_up HS6.out.duo K8).mono fun z _ hz => Nat.le_trans HBW.out hz)
                have HZ8 := Lib.hid (qc_of HS8.out)
                clear d8 K8 hk8 hko8 hk8' hak hbk hend hok
                obtain ⟨ms, hms⟩ : ∃ ms, M (a / 8) = ms := ⟨_, rfl⟩
                have HOF : Hid (∀ W, Keep (fun _ => False) w8 W → Calls Try.prog 16 #[.pointer (some ⟨A.X, 0, none⟩), .int .i64 (a : Int)] W fun e w' => e = .returned (.int .i64 ms) ∧ w' = W) := fun W KW => by
                  rw [← hms]; exact of_in (HS8.out.keep0 KW).duo.rk HAN2.out
                cases bb with
                | true =>
                  obtain ⟨y', hy, hmx⟩ := th_true HX.out (by rw [HPE.out]; exact HBB.out)
                  rw [ht] at hy
                  injection hy with hy
                  injection hy with hy hown
                  subst hy
                  subst hown
                  simp only [Int.toNat_natCast] at hmx
                  rw [hms] at hmx
                  have t2 : (ms == (x : Int)) = true := by simpa using hmx
                  have hs9 : St w8 A q (subB F o a) M F M v T := by have h := HS8.out; rw [tkM_own] at h; simpa using h
                  have HS9 := Lib.hid hs9
                  clear hs9
                  clear ht hms hmx HS8
                  go_wp2
                  go_loopw [17] (fun i w9 => ∃ j : Nat, j ≤ A.n ∧ i = .int .i64 (j : Int) ∧ Keep (fun _ => False) w8 w9) (fun i _ => A.n - (intOf i).toNat)
                  case atStart => exact ⟨0, Nat.zero_le _, rfl, Keep.refl _ _⟩
                  case round =>
                    obtain ⟨j, hjn, rfl, hk9⟩ := hrel
                    have HK9 := Lib.hid hk9
                    clear hk9
                    obtain ⟨z0, z1, z2, z3⟩ := qc_keep HZ8.out HK9.out
                    have HZ9 := Lib.hid (qc_keep HZ8.out HK9.out)
                    by_cases hlt : j < A.n
                    · have i1 : (j : Int) < A.n := by omega
                      have HJ := Lib.hid hlt
                      have e8 : IntKind.i64.wrap ((j : Int) + 1) = (j : Int) + 1 := IntWalk.i64_in _ (by have := HN.out; omega)
                      go_wp2
                      go_region_held3 (fun w' => QC q A.k A.X A.x A.g A.n w')
                        (first | with_reducible exact HC6.out | with_reducible exact HC5.out | exact HZ9.out)
                        (first | (go_at_call 17; refine (d_kind2 (HS9.out.keep0 (Keep.trans HK9.out (by (repeat (first | exact Keep.refl _ _ | exact Keep.refl _ _ | refine Keep.drew ?_ | refine Keep.drewN ?_ _ | refine Keep.alloc ?_ _ | refine Keep.setNew ?_ (by omega) _)); done))).duo HJ.out).mono ?_; rintro e w5' ⟨rfl, hk5⟩; have HK5' : Hid (Keep (fun _ => False) w8 w5') := Keep.trans (Keep.trans HK9.out (by (repeat (first | exact Keep.refl _ _ | exact Keep.refl _ _ | refine Keep.drew ?_ | refine Keep.drewN ?_ _ | refine Keep.alloc ?_ _ | refine Keep.setNew ?_ (by omega) _)); done)) hk5; have HC5 := Lib.hid (qc_keep HZ8.out HK5'.out); clear hk5)
                               | (go_at_call 16; refine (d_of2 (HS9.out.keep0 (Keep.trans HK5'.out (by (repeat (first | exact Keep.refl _ _ | exact Keep.refl _ _ | refine Keep.drew ?_ | refine Keep.drewN ?_ _ | refine Keep.alloc ?_ _ | refine Keep.setNew ?_ (by omega) _)); done))).duo HJ.out).mono ?_; rintro e w6' ⟨rfl, hk6⟩; have HK6' : Hid (Keep (fun _ => False) w8 w6') := Keep.trans (Keep.trans HK5'.out (by (repeat (first | exact Keep.refl _ _ | exact Keep.refl _ _ | refine Keep.drew ?_ | refine Keep.drewN ?_ _ | refine Keep.alloc ?_ _ | refine Keep.setNew ?_ (by omega) _)); done)) hk6; have HC6 := Lib.hid (qc_keep HZ8.out HK6'.out); clear hk6))
                      all_goals
                        go_wp2
                        go_roundw
                        case rel => exact ⟨j + 1, HJ.out, by go_num, Keep.trans HK6'.out (by (repeat (first | exact Keep.refl _ _ | exact Keep.refl _ _ | refine Keep.drew ?_ | refine Keep.drewN ?_ _ | refine Keep.alloc ?_ _ | refine Keep.setNew ?_ (by omega) _)); done)⟩
                        case measure => simp [intOf]; omega
                    · obtain rfl : j = A.n := by omega
                      clear hlt
                      go_wp2_with (go_at_call 16; refine (HOF.out _ (Keep.trans HK9.out (by (repeat (first | exact Keep.refl _ _ | exact Keep.refl _ _ | refine Keep.drew ?_ | refine Keep.drewN ?_ _ | refine Keep.alloc ?_ _ | refine Keep.setNew ?_ (by omega) _)); done))).mono ?_; rintro e w9 ⟨rfl, rfl⟩)
                      go_ret
                      exact ⟨rfl, Up.below (Keep.trans HU8.out (Up.of (Keep.trans HK9.out (by (repeat (first | exact Keep.refl _ _ | exact Keep.refl _ _ | refine Keep.drew ?_ | refine Keep.drewN ?_ _ | refine Keep.alloc ?_ _ | refine Keep.setNew ?_ (by omega) _)); done))))⟩
                | false =>
                  have hmx := th_false HX.out (by rw [HPE.out]; exact HBB.out) ht
                  simp only [Int.toNat_natCast] at hmx
                  rw [hms] at hmx
                  have t2 : (ms == (x : Int)) = false := by simpa using hmx
                  have t3 : (ms != (x : Int)) = true := by simpa using hmx
                  clear ht hms hmx
                  obtain ⟨z0, z1, z2, z3⟩ := HZ8.out
                  go_wp2_with (go_at_call 16; refine (HOF.out _ (by (repeat (first | exact Keep.refl _ _ | exact Keep.refl _ _ | refine Keep.drew ?_ | refine Keep.drewN ?_ _ | refine Keep.alloc ?_ _ | refine Keep.setNew ?_ (by omega) _)); done)).mono ?_; rintro e w9 ⟨rfl, rfl⟩)
                  go_ret
                  exact ⟨rfl, Up.below (Keep.trans HU8.out (Up.of (by (repeat (first | exact Keep.refl _ _ | exact Keep.refl _ _ | refine Keep.drew ?_ | refine Keep.drewN ?_ _ | refine Keep.alloc ?_ _ | refine Keep.setNew ?_ (by omega) _)); done)))⟩

end Go.Proofs.Ytnjcchgbkemekaa
