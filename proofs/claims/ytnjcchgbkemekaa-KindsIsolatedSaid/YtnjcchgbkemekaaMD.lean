/- Kinds: KindsIsolated, the walk. -/
import Derived.Test.YtnjcchgbkemekaaMA
import Derived.Test.YtnjcchgbkemekaaLP
import Derived.ProofKit
set_option linter.unusedVariables false
set_option linter.unusedSimpArgs false
namespace Go.Proofs.Ytnjcchgbkemekaa
open Go.RowKit Go.Own

theorem u8_of {x : Int} (h : (Lit.int .u8 x).wf = true) : ∃ y : Nat, x = y ∧ y ≤ 255 := by
  have hb : 0 ≤ x ∧ x ≤ 255 := by simpa [Lit.wf, IntKind.min, IntKind.max, IntKind.signed, IntKind.bits] using h
  exact ⟨x.toNat, by omega, by omega⟩
theorem size_p (o P : Nat) (h : o ≤ 8) (hP : 2 ^ o = P) (W : World) : Calls Try.prog 14 #[.int .i64 (o : Int)] W fun e w' => e = .returned (.int .i64 (P : Int)) ∧ w' = W := by
  have e : (P : Int) = (2 : Int) ^ o := by rw [← hP]; simp
  rw [e]; exact size_any o h W
theorem up_base {w w0 wr : World} (K : Keep (fun _ => False) w w0) (h : Up w0.heap.size w0 wr) : Up w.heap.size w wr :=
  Keep.trans (Up.of K) (h.mono fun z _ hz => Nat.le_trans K.size hz)
abbrev QD (q k X x r s cap : Nat) (w : World) : Prop := w.cell? ⟨q, 0, none⟩ = some (.pointer (some ⟨k, 0, none⟩)) ∧ w.cell? ⟨q, 1, none⟩ = some (.pointer (some ⟨X, 0, none⟩)) ∧ w.cell? ⟨X, 0, none⟩ = some (.pointer (some ⟨x, 0, none⟩)) ∧ w.cell? ⟨X, 1, none⟩ = some (.slice (some ⟨r, 0, none⟩) s cap)
theorem qd_of {w : World} {A : Ad} {q : Nat} {F F' : Nat → Bool} {M M' : Nat → Int} {v : Value} {T : List Bk} (h : St w A q F M F' M' v T) : QD q A.k A.X A.x A.r (sec A.n) A.cap w :=
  ⟨(cells3 h.hq).1, (cells3 h.hq).2.1, (cell2b h.duo.rk.hX).1, (cell2b h.duo.rk.hX).2⟩
theorem qd_keep {w w' : World} {q k X x r s cap : Nat} (h : QD q k X x r s cap w) (K : Keep (fun _ => False) w w') : QD q k X x r s cap w' := by
  have f : ∀ {b j : Nat} {x : Value}, w.cell? ⟨b, j, none⟩ = some x → w'.cell? ⟨b, j, none⟩ = some x := fun h => (K.cell (block_lt_cell h) id).trans h
  exact ⟨f h.1, f h.2.1, f h.2.2.1, f h.2.2.2⟩
def miL (M : Nat → Int) (n : Nat) : List Value := (List.range n).map fun i => .int .i64 (M i)
theorem MetI.reads {w : World} {q n cap : Nat} {M : Nat → Int} (h : MetI w q n M) : Reads w (.slice (some ⟨q, 0, none⟩) n cap) n 1 (miL M n) := by
  refine ⟨by simp [miL], .inr ⟨_, _, rfl, fun j u hj => ?_⟩⟩
  have hl : j < n := by
    have := (List.getElem?_eq_some_iff.mp hj).1
    simpa [miL] using this
  rw [Addr.add_lit, Nat.zero_add, h.cell hl]
  rw [← hj]
  simp [miL, hl]
theorem miL_one (M : Nat → Int) (n : Nat) : ∀ u ∈ miL M n, u.oneCell' = true := by
  intro u hu
  simp only [miL, List.mem_map] at hu
  obtain ⟨i, _, rfl⟩ := hu
  rfl
/-- A new row of the numbers. -/
theorem met_of_row {w : World} {B n : Nat} {v : Value} {M : Nat → Int} (h : w.ownsRow B 3 1 v n (miL M n)) (hn : 0 < n) : ∃ g cap, v = .slice (some ⟨g, 0, none⟩) n cap ∧ B ≤ g ∧ MetI w g n M := by
  rcases h.2 with ⟨rfl, e⟩ | ⟨g, cap, cur, rfl, hb, hg, h1, h2, h3, h4⟩
  · omega
  · refine ⟨g, cap, rfl, hb, cur, hg, by omega, fun i hi => ?_⟩
    have h5 := congrArg (fun l : List Value => l[i]?) h4
    simp only [Nat.mul_one] at h5
    rw [List.getElem?_take_of_lt hi, Array.getElem?_toList] at h5
    rw [h5]
    simp [miL, hi]
def TkR (w : World) (B k b kr n : Nat) (F : Nat → Bool) (M : Nat → Int) (N : Nat → Prop) (o : Nat) (x : Int) (a er : Int) (w' : World) : Prop :=
  ∃ D, IsBl F D ∧ ((tkP M D o x = none ∧ a = 0 ∧ er = 8 ∧ Keep (fun _ => False) w w') ∨
    (∃ (y : Bk) (own : Bool), tkP M D o x = some (y, own) ∧ a = y.f ∧ er = 0 ∧ KO w' B k b kr n (subB F o y.f.toNat) (tkM M o x y own) N ∧ KT3 B b kr N w w'))
theorem ktake_one {w : World} {B k b kr n : Nat} {F : Nat → Bool} {M : Nat → Int} {N : Nat → Prop} (o : Nat) (x : Int) (h : KO w B k b kr n F M N) (ho : o ≤ 8) (hx : x = 0 ∨ x = 1 ∨ x = 2) :
    Calls Try.prog 13 #[.pointer (some ⟨k, 0, none⟩), .int .i64 (o : Int), .int .i64 x] w fun e w' => ∃ a er : Int, e = .returned (.tuple #[.int .i64 a, .int .i64 er]) ∧ TkR w B k b kr n F M N o x a er w' := by
  refine (ktake_any o x h ho hx).mono ?_
  rintro e w' ⟨D, hD, ⟨h1, rfl, h2⟩ | ⟨y, own, h1, rfl, h2, h3⟩⟩
  · exact ⟨0, 8, rfl, D, hD, .inl ⟨h1, rfl, rfl, h2⟩⟩
  · exact ⟨y.f, 0, rfl, D, hD, .inr ⟨y, own, h1, rfl, rfl, h2, h3⟩⟩
theorem div8i (z : Nat) (hz : z ≤ 5000) : ∃ s : Nat, z / 8 = s ∧ Int.tdiv (z : Int) 8 = (s : Int) ∧ (z : Int) / 8 = (s : Int) ∧ wrap64 (s : Int) = (s : Int) ∧ IntKind.i64.wrap (s : Int) = (s : Int) ∧ (0 : Int) ≤ s :=
  ⟨z / 8, rfl, (Int.ofNat_tdiv z 8).symm, (Int.natCast_ediv z 8).symm, IntWalk.wrap64_in _ (by omega), IntWalk.i64_in _ (by omega), by omega⟩

theorem iso_facts {a j P n : Nat} (hj : j < P) (he : a + P ≤ n) (hn : n ≤ 1024) : ∃ z s : Nat, a + j = z ∧ z / 8 = s ∧ Int.tdiv (z : Int) 8 = (s : Int) ∧ (z : Int) / 8 = (s : Int) ∧ wrap64 (s : Int) = (s : Int) ∧ IntKind.i64.wrap (s : Int) = (s : Int) ∧ (0 : Int) ≤ s ∧
    s < sec n ∧ (s : Int) < sec n ∧ IntKind.i64.wrap ((a : Int) + (j : Int)) = (z : Int) ∧ IntKind.i64.wrap ((j : Int) + 1) = (j : Int) + 1 := by
  obtain ⟨s, e0, e1, e2, e3, e4, e5⟩ := div8i (a + j) (by omega)
  have hs : s < sec n := by rw [← e0]; exact sec_lt (by omega)
  exact ⟨a + j, s, rfl, e0, e1, e2, e3, e4, e5, hs, Int.ofNat_lt.mpr hs, (IntWalk.i64_in _ (by omega)).trans (by omega), IntWalk.i64_in _ (by omega)⟩

set_option maxRecDepth 100000 in
set_option maxHeartbeats 4000000 in
theorem iso_walk (n : Int) (la : Option Addr) (l c : Nat) (od kd : Int) (w : World) (hr : RowsAt w la l [.int .i64, .int .i64, .int .i64, .int .i64, .int .i64]) (ho : (Lit.int .u8 od).wf = true) (hk : (Lit.int .u8 kd).wf = true) :
    Calls Try.prog 3 #[.agg #[.int .i64 n, .slice la l c, .int .u8 od, .int .u8 kd]] w fun e w' => e = .returned (.bool true) ∧ Below w.heap.size w w' := by
  obtain ⟨L, rfl, hA⟩ := acts5_of_rows hr
  obtain ⟨od, rfl, hod⟩ := u8_of ho
  obtain ⟨kd, rfl, hkd⟩ := u8_of hk
  have HOD := Lib.hid (And.intro hod hkd)
  have HA0 := Lib.hid hA
  clear hA hr ho hk hod hkd
  have hbx := heap_alloc_new w (.cells #[.int .i64 n, .slice la L.length c, .int .u8 (od : Int), .int .u8 (kd : Int)] 24)
  have b0 : (w.alloc (.cells #[.int .i64 n, .slice la L.length c, .int .u8 (od : Int), .int .u8 (kd : Int)] 24)).cell? ⟨w.heap.size, 0, none⟩ = some (.int .i64 n) := by simp [cell_block hbx]
  have b1 : (w.alloc (.cells #[.int .i64 n, .slice la L.length c, .int .u8 (od : Int), .int .u8 (kd : Int)] 24)).cell? ⟨w.heap.size, 1, none⟩ = some (.slice la L.length c) := by simp [cell_block hbx]
  have b2 : (w.alloc (.cells #[.int .i64 n, .slice la L.length c, .int .u8 (od : Int), .int .u8 (kd : Int)] 24)).cell? ⟨w.heap.size, 2, none⟩ = some (.int .u8 (od : Int)) := by simp [cell_block hbx]
  have b3 : (w.alloc (.cells #[.int .i64 n, .slice la L.length c, .int .u8 (od : Int), .int .u8 (kd : Int)] 24)).cell? ⟨w.heap.size, 3, none⟩ = some (.int .u8 (kd : Int)) := by simp [cell_block hbx]
  clear hbx
  go_enter Try.func3, Try.ntmps3
  go_wp2
  go_quiet (fail)
  generalize hw0 : World.drewN _ _ = w0
  have HK0 : Hid (Keep (fun _ => False) w w0) := by rw [← hw0]; exact (by (repeat (first | exact Keep.refl _ _ | exact Keep.refl _ _ | refine Keep.drew ?_ | refine Keep.drewN ?_ _ | refine Keep.alloc ?_ _ | refine Keep.setNew ?_ (by omega) _)); done)
  clear hw0 b0 b1 b2 b3
  have H1 := Lib.hid (HA0.out.up (Up.of HK0.out))
  clear HA0
  rcases sm_is n with hb | ⟨m, hm, h8, hm4⟩
  · have HB := Lib.hid hb
    clear hb
    go_wp2_with fail
    refine (kmade_bad n HB.out _).mono ?_
    rintro e w2 ⟨rfl, hk2⟩
    have HK2 : Hid (Keep (fun _ => False) w0 w2) := Keep.trans (by (repeat (first | exact Keep.refl _ _ | exact Keep.refl _ _ | refine Keep.drew ?_ | refine Keep.drewN ?_ _ | refine Keep.alloc ?_ _ | refine Keep.setNew ?_ (by omega) _)); done) hk2
    clear hk2
    go_wp2_with fail
    refine (awake_any _).mono ?_
    rintro e w3 ⟨rfl, hk3⟩
    have HK3 : Hid (Keep (fun _ => False) w0 w3) := HK2.out.trans (Keep.trans (by (repeat (first | exact Keep.refl _ _ | exact Keep.refl _ _ | refine Keep.drew ?_ | refine Keep.drewN ?_ _ | refine Keep.alloc ?_ _ | refine Keep.setNew ?_ (by omega) _)); done) hk3)
    clear hk3
    go_wp2_with fail
    refine (awake_any _).mono ?_
    rintro e w4 ⟨rfl, hk4⟩
    have HK4 : Hid (Keep (fun _ => False) w0 w4) := HK3.out.trans (Keep.trans (by (repeat (first | exact Keep.refl _ _ | exact Keep.refl _ _ | refine Keep.drew ?_ | refine Keep.drewN ?_ _ | refine Keep.alloc ?_ _ | refine Keep.setNew ?_ (by omega) _)); done) hk4)
    clear hk4
    go_wp2
    go_ret
    exact ⟨rfl, (Up.of (HK0.out.trans HK4.out)).below⟩
  · have HM := Lib.hid (And.intro h8 hm4)
    clear h8 hm4
    go_wp2_with fail
    refine (kmade_any2 n m hm HM.out.1 HM.out.2 _).mono ?_
    rintro e w2 ⟨A, q, rfl, hn, hI2, v2, hS2⟩
    have HI2 := Lib.hid hI2
    have HAN := Lib.hid hn
    have HS2 := Lib.hid hS2
    clear hI2 hn hS2 hm
    go_wp2_with fail
    refine (awake_any _).mono ?_
    rintro e w3 ⟨rfl, hk3⟩
    have HI3 := Lib.hid (HI2.out.keep0 (Keep.trans (by (repeat (first | exact Keep.refl _ _ | exact Keep.refl _ _ | refine Keep.drew ?_ | refine Keep.drewN ?_ _ | refine Keep.alloc ?_ _ | refine Keep.setNew ?_ (by omega) _)); done) hk3))
    have HS3 := Lib.hid (HS2.out.keep0 (Keep.trans (by (repeat (first | exact Keep.refl _ _ | exact Keep.refl _ _ | refine Keep.drew ?_ | refine Keep.drewN ?_ _ | refine Keep.alloc ?_ _ | refine Keep.setNew ?_ (by omega) _)); done) hk3))
    clear hk3 HI2 HS2
    clear HS3
    go_wp2
    go_loopw [9] (fun i wr => ∃ k : Nat, k ≤ L.length ∧ k ≤ 60 ∧ i = .int .i64 (k : Int) ∧ LoopI w0 wr A q k) (fun i _ => 60 - (intOf i).toNat)
    case atStart => exact ⟨0, by omega, by omega, rfl, HI3.out⟩
    case round =>
      obtain ⟨k, hkA, hk60, rfl, hI⟩ := hrel
      have HI := Lib.hid hI
      clear hI HI3
      by_cases hlt : k < L.length ∧ k < 60
      · obtain ⟨hlt, hlt3⟩ := hlt
        obtain ⟨b, o, rfl, hc⟩ := (H1.out.up HI.out.up) k hlt
        obtain ⟨y, hy⟩ : ∃ y, L[k]'hlt = y := ⟨_, rfl⟩
        rw [hy] at hc
        obtain ⟨yk, yf, yo, yy, yn⟩ := y
        obtain ⟨c0, c1, c2, c3, c4, hf⟩ := hc
        have HF := Lib.hid hf
        have k0 : (0 : Int) ≤ k := Int.natCast_nonneg k
        have k1 : (k : Int) < L.length := Int.ofNat_lt.mpr hlt
        clear hf hy
        go_wp2_with (go_at_call 10; refine ((HI.out.keep0 (by (repeat (first | exact Keep.refl _ _ | exact Keep.refl _ _ | refine Keep.drew ?_ | refine Keep.drewN ?_ _ | refine Keep.alloc ?_ _ | refine Keep.setNew ?_ (by omega) _)); done)).do (by omega) yk yf yo yy yn HF.out).mono ?_; rintro e w5 ⟨rfl, hI5⟩; have HI5 := Lib.hid hI5; clear hI5)
        go_roundw
        case rel => exact ⟨k + 1, by omega, by omega, by go_num, HI5.out⟩
        case measure => simp [intOf]; omega
      · have hkk : k = L.length ∨ (k < L.length ∧ k = 60) := by omega
        clear hlt
        obtain ⟨hB, F, M, T, ⟨v, hS, hT, hM⟩, hl, hu⟩ := HI.out
        have HS := Lib.hid hS
        have HMO := Lib.hid hM
        have HU := Lib.hid (up_base HK0.out hu)
        have HBW : Hid (w.heap.size ≤ A.B) := by unfold Hid; rw [hB]; exact HK0.out.size
        have HQ := Lib.hid (qd_of hS)
        have HFN : Hid (∀ i, F i = true → i < A.n) := hS.duo.ko.bf.fin
        have HN : Hid (8 ≤ A.n ∧ A.n ≤ 1024) := hS.duo.rk.n8
        obtain ⟨z0, z1, z2, z3⟩ := HQ.out
        obtain ⟨cf, hcf⟩ : ∃ cf, cnt F A.n = cf := ⟨_, rfl⟩
        obtain ⟨c3, hc3⟩ : ∃ c3, cntK F M 3 A.n = c3 := ⟨_, rfl⟩
        have hle : c3 ≤ cf := by rw [← hcf, ← hc3]; exact cntK_le_cnt A.n
        have hce : cf ≤ 1024 := by rw [← hcf]; exact Nat.le_trans (cnt_le F A.n) HN.out.2
        obtain ⟨nn, hnn⟩ : ∃ nn, cf - c3 = nn := ⟨_, rfl⟩
        have hsub : IntKind.i64.wrap ((cf : Int) - (c3 : Int)) = (nn : Int) := (IntWalk.i64_in _ (by omega)).trans (by omega)
        have HCF := Lib.hid hcf
        have HC3 := Lib.hid hc3
        have HNN := Lib.hid hnn
        have HLE := Lib.hid hle
        clear hS hT hM hl hu hB HI H1 hcf hc3 hle hce hnn
        obtain ⟨o, ho⟩ : ∃ o, od % 9 = o := ⟨_, rfl⟩
        obtain ⟨x, hx⟩ : ∃ x, kd % 3 = x := ⟨_, rfl⟩
        have ho8 : o ≤ 8 := by omega
        have e9 : (od : Int) % 9 = (o : Int) := by omega
        have e3 : (kd : Int) % 3 = (x : Int) := by omega
        have HX : Hid ((x : Int) = 0 ∨ (x : Int) = 1 ∨ (x : Int) = 2) := by unfold Hid; omega
        have hwo : IntKind.i64.wrap (o : Int) = (o : Int) := IntWalk.i64_in _ (by omega)
        have hwx : IntKind.i64.wrap (x : Int) = (x : Int) := IntWalk.i64_in _ (by omega)
        obtain ⟨P, hP⟩ : ∃ P, 2 ^ o = P := ⟨_, rfl⟩
        have hP1 : 1 ≤ P ∧ P ≤ 256 := by
          rw [← hP]
          exact ⟨p2 o, by have := Nat.pow_le_pow_right (n := 2) (by decide) ho8; omega⟩
        have HP := Lib.hid (And.intro hP hP1)
        have HO8 := Lib.hid ho8
        have HSZ : Hid (∀ W, Calls Try.prog 14 #[.int .i64 (o : Int)] W fun e w' => e = .returned (.int .i64 (P : Int)) ∧ w' = W) := fun W => size_p o P ho8 hP W
        clear hP hP1 ho hx ho8
        rcases hkk with hkk | ⟨hkl, hkk⟩
        all_goals
          subst hkk
          go_wp2
          go_region_held3 (fun w' => QD q A.k A.X A.x A.r (sec A.n) A.cap w')
            (first | with_reducible exact HZ6.out | with_reducible exact HZ5.out | exact HQ.out)
            (first | (go_at_call 11; refine (d_rfree (HS.out.keep0 (by (repeat (first | exact Keep.refl _ _ | exact Keep.refl _ _ | refine Keep.drew ?_ | refine Keep.drewN ?_ _ | refine Keep.alloc ?_ _ | refine Keep.setNew ?_ (by omega) _)); done)).duo).mono ?_; rw [HCF.out]; rintro e w5 ⟨rfl, hk5⟩; have HK5 : Hid (Keep (fun _ => False) wr w5) := Keep.trans (by (repeat (first | exact Keep.refl _ _ | exact Keep.refl _ _ | refine Keep.drew ?_ | refine Keep.drewN ?_ _ | refine Keep.alloc ?_ _ | refine Keep.setNew ?_ (by omega) _)); done) hk5; have HZ5 := Lib.hid (qd_keep HQ.out HK5.out); clear hk5) | (go_at_call 12; refine (d_rfreeOf 3 (HS.out.keep0 (by (repeat (first | exact HK5.out | exact Keep.refl _ _ | refine Keep.drew ?_ | refine Keep.drewN ?_ _ | refine Keep.alloc ?_ _ | refine Keep.setNew ?_ (by omega) _)); done)).duo).mono ?_; rw [HC3.out]; rintro e w6 ⟨rfl, hk6⟩; have HK6 : Hid (Keep (fun _ => False) wr w6) := Keep.trans (by (repeat (first | exact HK5.out | exact Keep.refl _ _ | refine Keep.drew ?_ | refine Keep.drewN ?_ _ | refine Keep.alloc ?_ _ | refine Keep.setNew ?_ (by omega) _)); done) hk6; have HZ6 := Lib.hid (qd_keep HQ.out HK6.out); clear hk6))
          clear z0 z1 z2 z3
          obtain ⟨z0, z1, z2, z3⟩ := HZ6.out
          have hs1 : 1 ≤ sec A.n ∧ sec A.n ≤ 128 := by have := HN.out; unfold sec; omega
          have HSEC := Lib.hid hs1
          clear hs1
          go_wp2_with (at_builtin; refine wpl_app et60 rfl (.tmp 73) (.tmp 80) rfl w6.heap.size (.slice none 0 0) 0 [] rfl (World.ownsRow_nil _ _ _ _) (.slice (some ⟨A.r, 0, none⟩) (sec A.n) A.cap) (sec A.n) (miL M (sec A.n)) rfl ((HS.out.keep0 (by (repeat (first | exact HK6.out | exact Keep.refl _ _ | refine Keep.drew ?_ | refine Keep.drewN ?_ _ | refine Keep.alloc ?_ _ | refine Keep.setNew ?_ (by omega) _)); done)).duo.rk.mt.reads) (miL_one _ _) (by have := HSEC.out; unfold maxLen; omega) (by have := HSEC.out; omega) (by first | exact Nat.le_refl _ | simp) ?_; intro v7 w7 ho7 hg7; obtain ⟨g, cap7, rfl, hg, hmet⟩ := met_of_row (n := sec A.n) (M := M) (by simpa using ho7) HSEC.out.1; have HK7 : Hid (Keep (fun _ => False) wr w7) := Keep.grown (by (repeat (first | exact HK6.out | exact Keep.refl _ _ | refine Keep.drew ?_ | refine Keep.drewN ?_ _ | refine Keep.alloc ?_ _ | refine Keep.setNew ?_ (by omega) _)); done) hg7 (fun x h1 h2 => by cases h1); have HG7 : Hid (wr.heap.size ≤ g) := Nat.le_trans HK6.out.size hg; have HME7 := Lib.hid hmet; have HZ7 := Lib.hid (qd_keep HQ.out HK7.out); clear ho7 hg7 hg hmet z0 z1 z2 z3; obtain ⟨z0, z1, z2, z3⟩ := HZ7.out)
          have HKO : Hid (KO w7 A.B A.k A.b A.kr A.n F M (fun z => NN A z ∨ z = g)) := HS.out.duo.ko.add HK7.out HG7.out HME7.out.lt
          clear HK5 HK6 HZ5 HZ6
          clear e9 hwo hsub
          go_wp2_with fail
          refine (ktake_one o x (HKO.out.keep0 (by (repeat (first | exact Keep.refl _ _ | exact Keep.refl _ _ | refine Keep.drew ?_ | refine Keep.drewN ?_ _ | refine Keep.alloc ?_ _ | refine Keep.setNew ?_ (by omega) _)); done)) HO8.out HX.out).mono ?_
          rintro e w8 ⟨ra, er, rfl, D, hD, ⟨ht, rfl, rfl, hk8⟩ | ⟨y, own, ht, rfl, rfl, hko8, hk8⟩⟩
          · have HK8 : Hid (Keep (fun _ => False) wr w8) := Keep.trans (by (repeat (first | exact HK7.out | exact Keep.refl _ _ | refine Keep.drew ?_ | refine Keep.drewN ?_ _ | refine Keep.alloc ?_ _ | refine Keep.setNew ?_ (by omega) _)); done) hk8
            have h0 : o = 0 → nn = 0 := by
              intro h0
              subst h0
              have := cntK_all (F := F) (M := M) (n := A.n) fun i _ hi => none_iso hD HFN.out HMO.out HX.out ht hi
              have e1 := HC3.out; have e2 := HCF.out; have e3 := HNN.out
              omega
            clear hD ht hk8 z0 z1 z2 z3
            rcases Nat.eq_zero_or_pos o with ho | ho
            · have hn0 := h0 ho
              clear h0
              subst ho
              subst hn0
              go_wp2
              go_ret
              exact ⟨rfl, Up.below (Keep.trans HU.out (Up.of (by (repeat (first | exact HK8.out | exact Keep.refl _ _ | refine Keep.drew ?_ | refine Keep.drewN ?_ _ | refine Keep.alloc ?_ _ | refine Keep.setNew ?_ (by omega) _)); done)))⟩
            · have t0 : decide ((0 : Int) < (o : Int)) = true := by simp; omega
              have t1 : decide (0 < o) = true := by simp; omega
              clear h0
              go_wp2
              go_ret
              exact ⟨rfl, Up.below (Keep.trans HU.out (Up.of (by (repeat (first | exact HK8.out | exact Keep.refl _ _ | refine Keep.drew ?_ | refine Keep.drewN ?_ _ | refine Keep.alloc ?_ _ | refine Keep.setNew ?_ (by omega) _)); done)))⟩
          · obtain ⟨⟨a, k, rfl, hk8', hak, hbk, hend⟩, hok⟩ := tkP_fine hD HFN.out ht
            have HIN : Hid (∀ i, a ≤ i → i < a + P → M (i / 8) ≠ 3 ∧ F i = true) := fun i h1 h2 => some_iso hD HFN.out HX.out ht (by simpa using h1) (by have := HP.out.1; subst this; simpa using h2)
            have hnp : 0 < nn := by
              have h1 := HIN.out a (Nat.le_refl _) (by have := HP.out.2; omega)
              have := cntK_some (HFN.out a h1.2) h1.2 h1.1
              have e1 := HC3.out; have e2 := HCF.out; have e3 := HNN.out
              omega
            have t0 : decide ((0 : Int) < (nn : Int)) = true := by simp; omega
            have t1 : decide (0 < nn) = true := by simp; omega
            have HME8 : Hid (MetI w8 g (sec A.n) M) := HME7.out.keep hk8 (by
              rintro (rfl | ⟨⟨_, _, h2⟩, _⟩ | rfl)
              · obtain ⟨c8, h8⟩ := HKO.out.bf.hp
                obtain ⟨c9, h9⟩ := HME7.out.typ
                exact typ_ne h8 h9 (by decide) rfl
              · exact h2 (.inr rfl)
              · obtain ⟨c9, h9⟩ := HS.out.duo.ko.mt.typ
                have := block_lt h9; have := HG7.out; omega)
            have HUP : Hid (Up w.heap.size w w8) := Keep.trans (Keep.trans HU.out (Up.of (by (repeat (first | exact HK7.out | exact Keep.refl _ _ | refine Keep.drew ?_ | refine Keep.drewN ?_ _ | refine Keep.alloc ?_ _ | refine Keep.setNew ?_ (by omega) _)); done))) (hk8.mono (by
              have := HBW.out
              have hbk := HS.out.duo.bk
              rintro z _ (rfl | ⟨⟨h1, _, _⟩, _⟩ | rfl) <;> omega))
            clear hD ht hk8 hko8 hbk hak hok hk8' hend hnp z0 z1 z2 z3
            have HEND : Hid (a + P ≤ A.n) := by
              have h1 := HFN.out (a + P - 1) (HIN.out (a + P - 1) (by have := HP.out.2; omega) (by have := HP.out.2; omega)).2
              have := HP.out.2
              unfold Hid; omega
            go_wp2
            go_loopw [15] (fun i wr2 => ∃ j : Nat, j ≤ P ∧ i = .int .i64 (j : Int) ∧ Keep (fun _ => False) w8 wr2) (fun i _ => P - (intOf i).toNat)
            case atStart => exact ⟨0, Nat.zero_le _, rfl, Keep.refl _ _⟩
            case round =>
              obtain ⟨j, hjP, rfl, hk9⟩ := hrel
              have HK9 := Lib.hid hk9
              clear hk9
              by_cases hlt : j < P
              · have i1 : (j : Int) < P := by omega
                have HJ : Hid (j + 1 ≤ P) := hlt
                obtain ⟨z, s, ez, e0, e1, e2, e3, e4, e5, hs, e6, e7, e8⟩ := iso_facts hlt HEND.out HN.out.2
                have hc := (HME8.out.keep HK9.out id).cell hs
                have hM3 : M s ≠ 3 := by rw [← e0, ← ez]; exact (HIN.out (a + j) (Nat.le_add_right _ _) (Nat.add_lt_add_left hlt _)).1
                obtain ⟨ms, hms⟩ : ∃ ms, M s = ms := ⟨_, rfl⟩
                rw [hms] at hc hM3
                have e9 : (ms == 3) = false := by simpa using hM3
                clear hms hM3 e0 ez
                go_wp2_with (go_at_call 14; refine (HSZ.out _).mono ?_; rintro e w9 ⟨rfl, rfl⟩)
                go_roundw
                case rel => exact ⟨j + 1, HJ.out, by go_num, (by (repeat (first | exact HK9.out | exact Keep.refl _ _ | refine Keep.drew ?_ | refine Keep.drewN ?_ _ | refine Keep.alloc ?_ _ | refine Keep.setNew ?_ (by omega) _)); done)⟩
                case measure => simp [intOf]; omega
              · obtain rfl : j = P := by omega
                clear hlt
                go_wp2_with (go_at_call 14; refine (HSZ.out _).mono ?_; rintro e w9 ⟨rfl, rfl⟩)
                go_ret
                exact ⟨rfl, Up.below (Keep.trans HUP.out (Up.of (by (repeat (first | exact HK9.out | exact Keep.refl _ _ | refine Keep.drew ?_ | refine Keep.drewN ?_ _ | refine Keep.alloc ?_ _ | refine Keep.setNew ?_ (by omega) _)); done)))⟩

end Go.Proofs.Ytnjcchgbkemekaa
