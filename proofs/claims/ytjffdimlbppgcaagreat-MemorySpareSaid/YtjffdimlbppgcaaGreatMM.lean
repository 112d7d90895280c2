/- Memory: New of both. -/
import Derived.Test.YtjffdimlbppgcaaGreatML
set_option linter.unusedVariables false
set_option linter.unusedSimpArgs false
namespace Go.Proofs.YtjffdimlbppgcaaGreat
open Go.RowKit Go.Own

theorem KO.addr {w w' : World} {B k b kr n r : Nat} {F : Nat → Bool} {M : Nat → Int} {N : Nat → Prop} (h : KO w B k b kr n F M N) (K : Keep (fun _ => False) w w') (h1 : w.heap.size ≤ r) (h2 : r < w'.heap.size) : KO w' B k b kr n F M (fun z => N z ∨ z = r) :=
  ⟨(K.block k (block_lt h.hk) id).trans h.hk, (BF.keep0 h.bf K).gk (fun z hz hn => by
    rcases hn with hn | rfl
    · exact hz.1.2.2 hn
    · have := hz.1.2.1; omega), h.mt.keep K id, .inl h.nk, fun z hz => by
    rcases hz with hz | rfl
    · exact Nat.lt_of_lt_of_le (h.nl z hz) K.size
    · exact h2, Nat.le_trans h.hB K.size⟩
/-- At first. -/
def P0 (n : Nat) : PS := ⟨upTo n, fun _ => 1, List.replicate n 0, fun _ => 0⟩
theorem lk0 (n : Nat) : Lk n (P0 n) := by
  refine ⟨fun i hi => ?_, fun _ _ => by simp [P0], by simp [P0], fun x hx => ?_, fun i hi => by simpa [P0, upTo] using hi, fun _ _ => by simp [P0]⟩
  · simp [P0, upTo, hi, gi]
  · simp only [P0, List.mem_replicate] at hx
    omega
theorem n_cases (n : Int) : (n < 8 ∨ 1024 < n) ∨ ∃ m : Nat, n = m ∧ 8 ≤ m ∧ m ≤ 1024 := by
  by_cases h : n < 8 ∨ 1024 < n
  · exact .inl h
  · exact .inr ⟨n.toNat, by omega, by omega, by omega⟩
theorem mnew_bad (n mk : Int) (h : n < 8 ∨ 1024 < n) (w : World) : Calls Tryz.prog 17 #[.int .i64 n, .int .i64 mk] w fun e w' => e = .returned (.tuple #[.pointer none, .int .i64 2]) ∧ Keep (fun _ => False) w w' := by
  have HB := Lib.hid h
  clear h
  go_enter Tryz.func17, Tryz.ntmps17
  go_wp2_with fail
  refine (knew_bad n HB.out _).mono ?_
  rintro e w1 ⟨rfl, hk⟩
  go_wp2
  go_ret2
  exact ⟨rfl, (by (repeat (first | exact hk | exact Keep.refl _ _ | refine Keep.drew ?_ | refine Keep.drewN ?_ _ | refine Keep.alloc ?_ _ | refine Keep.setNew ?_ (by omega) _)); done)⟩
theorem mark_cases {n : Nat} {mk : Int} (h : mk < 0 ∨ (n : Int) < mk) : (decide (mk < 0) = true) ∨ (decide (mk < 0) = false ∧ decide ((n : Int) < mk) = true) := by
  simp only [decide_eq_true_eq, decide_eq_false_iff_not]; omega
theorem mnew_mark (n : Nat) (mk : Int) (h0 : 8 ≤ n) (h1 : n ≤ 1024) (hm : mk < 0 ∨ (n : Int) < mk) (w : World) : Calls Tryz.prog 17 #[.int .i64 (n : Int), .int .i64 mk] w fun e w' => e = .returned (.tuple #[.pointer none, .int .i64 2]) ∧ Keep (fun _ => False) w w' := by
  have HN := Lib.hid (And.intro h0 h1)
  clear h0 h1
  rcases mark_cases hm with t0 | ⟨t0, t1⟩
  all_goals
    clear hm
    go_enter Tryz.func17, Tryz.ntmps17
    go_wp2_with fail
    refine (knew_any n HN.out.1 HN.out.2 _).mono ?_
    rintro e w1 ⟨k, b, kr, rfl, _, _, _, _, hk⟩
    have HK := Lib.hid hk
    clear hk
    go_wp2
    go_ret2
    exact ⟨rfl, (by (repeat (first | exact HK.out | exact Keep.refl _ _ | refine Keep.drew ?_ | refine Keep.drewN ?_ _ | refine Keep.alloc ?_ _ | refine Keep.setNew ?_ (by omega) _)); done)⟩
structure AtP (A : Ad) (B m r rb k b kr f q n mk : Nat) : Prop where
  e1 : A.B = B
  e2 : A.m = m
  e3 : A.r = r
  e4 : A.rb = rb
  e5 : A.k = k
  e6 : A.b = b
  e7 : A.kr = kr
  e8 : A.f = f
  e9 : A.q = q
  ea : A.n = n
  eb : A.mark = mk
set_option maxRecDepth 100000 in
set_option maxHeartbeats 2000000 in
theorem mnew_any (n mk : Nat) (h0 : 8 ≤ n) (h1 : n ≤ 1024) (hm : mk ≤ n) (w : World) : Calls Tryz.prog 17 #[.int .i64 (n : Int), .int .i64 (mk : Int)] w fun e w' => ∃ m r rb k b kr f q, e = .returned (.tuple #[.pointer (some ⟨m, 0, none⟩), .int .i64 0]) ∧
    (∀ A : Ad, AtP A w.heap.size m r rb k b kr f q n mk → Mo w' A (fun z => z = kr ∨ z = q) (P0 n)) ∧ Keep (fun _ => False) w w' := by
  have HN := Lib.hid (And.intro h0 (And.intro h1 hm))
  have t0 : decide ((mk : Int) < 0) = false := by simp
  have t1 : decide ((n : Int) < (mk : Int)) = false := by simp; omega
  have t1n : decide (n < mk) = false := by simp; omega
  clear h0 h1 hm
  go_enter Tryz.func17, Tryz.ntmps17
  go_wp2_with fail
  refine (knew_any n HN.out.1 HN.out.2.1 _).mono ?_
  rintro e w1 ⟨k, b, kr, rfl, hO, hk, hb, hkr, hk1⟩
  have HO := Lib.hid hO
  have HA := Lib.hid (And.intro hk (And.intro hb hkr))
  have HK1 : Hid (Keep (fun _ => False) w w1) := Keep.trans (by (repeat (first | exact Keep.refl _ _ | exact Keep.refl _ _ | refine Keep.drew ?_ | refine Keep.drewN ?_ _ | refine Keep.alloc ?_ _ | refine Keep.setNew ?_ (by omega) _)); done) hk1
  clear hO hk hb hkr hk1
  go_wp2_with fail
  have HBX := Lib.hid (heap_alloc_new w1 (.cells #[.pointer none, .pointer (some ⟨k, 0, none⟩), .pointer none, .int .i64 (mk : Int)] 74))
  have HK2 : Hid (Keep (fun _ => False) w1 (w1.alloc (.cells #[.pointer none, .pointer (some ⟨k, 0, none⟩), .pointer none, .int .i64 (mk : Int)] 74))) := (Keep.refl _ _).alloc _
  obtain ⟨m, hm⟩ : ∃ m, w1.heap.size = m := ⟨_, rfl⟩
  have HM := Lib.hid hm
  rw [hm] at HBX ⊢
  generalize w1.alloc (.cells #[.pointer none, .pointer (some ⟨k, 0, none⟩), .pointer none, .int .i64 (mk : Int)] 74) = w2 at HBX HK2 ⊢
  clear hm
  refine (ram_new n HN.out.1 HN.out.2.1 _).mono ?_
  rintro e w3 ⟨r, rb, rfl, hra, hr1, hr2, _, hk3⟩
  have HRA := Lib.hid hra
  have HK3 : Hid (Keep (fun _ => False) w2 w3) := Keep.trans (by (repeat (first | exact Keep.refl _ _ | exact Keep.refl _ _ | refine Keep.drew ?_ | refine Keep.drewN ?_ _ | refine Keep.alloc ?_ _ | refine Keep.setNew ?_ (by omega) _)); done) hk3
  have HR2 : Hid (w2.heap.size ≤ r ∧ w2.heap.size ≤ rb) := ⟨hr1, hr2⟩
  have HBX3 := Lib.hid ((HK3.out.block m (block_lt HBX.out) id).trans HBX.out)
  obtain ⟨m0, m1, m2, m3⟩ := cells4 HBX3.out
  have fz0 : w3.frozen? ⟨m, 0, none⟩ = false := frozen_block HBX3.out
  clear hra hr1 hr2 hk3
  go_wp2_with fail
  have HBX4 : Hid ((w3.setCell ⟨m, 0, none⟩ (.pointer (some ⟨r, 0, none⟩))).heap[m]? = some (.cells #[.pointer (some ⟨r, 0, none⟩), .pointer (some ⟨k, 0, none⟩), .pointer none, .int .i64 (mk : Int)] 74 (0, 0))) := by
    unfold Hid; rw [heap_setCell_eq HBX3.out]; simp
  have KS : Keep (fun z => z = m) w3 (w3.setCell ⟨m, 0, none⟩ (.pointer (some ⟨r, 0, none⟩))) := (Keep.refl (fun z => z = m) w3).setCell (p := ⟨m, 0, none⟩) (fun _ => rfl) _
  have HKS := Lib.hid KS
  have HRA4 := Lib.hid (HRA.out.keep KS (typ_ne HRA.out.hr HBX3.out (by decide)) (by obtain ⟨c2, t2⟩ := HRA.out.mb.typ; exact typ_ne t2 HBX3.out (by decide)))
  clear m0 m1 m2 m3 fz0 KS
  generalize w3.setCell ⟨m, 0, none⟩ (.pointer (some ⟨r, 0, none⟩)) = w4 at HBX4 HKS HRA4 ⊢
  refine (Fr.new_yes n _ HN.out.1 HN.out.2.1).mono ?_
  rintro e w5 ⟨f, q, rfl, hrf, hf1, hq1, hk5⟩
  have HRF := Lib.hid hrf
  have HK5 : Hid (Keep (fun _ => False) w4 w5) := Keep.trans (by (repeat (first | exact Keep.refl _ _ | exact Keep.refl _ _ | refine Keep.drew ?_ | refine Keep.drewN ?_ _ | refine Keep.alloc ?_ _ | refine Keep.setNew ?_ (by omega) _)); done) hk5
  have HFQ : Hid (w4.heap.size ≤ f ∧ w4.heap.size ≤ q) := ⟨hf1, hq1⟩
  have HBX5 := Lib.hid ((HK5.out.block m (block_lt HBX4.out) id).trans HBX4.out)
  obtain ⟨m0, m1, m2, m3⟩ := cells4 HBX5.out
  have fz0 : w5.frozen? ⟨m, 2, none⟩ = false := frozen_block HBX5.out
  clear hrf hf1 hq1 hk5
  go_wp2
  go_ret2
  have KL : Keep (fun z => z = m) w5 (w5.setCell ⟨m, 2, none⟩ (.pointer (some ⟨f, 0, none⟩))) := (Keep.refl (fun z => z = m) w5).setCell (p := ⟨m, 2, none⟩) (fun _ => rfl) _
  have HBX6 : (w5.setCell ⟨m, 2, none⟩ (.pointer (some ⟨f, 0, none⟩))).heap[m]? = some (.cells #[.pointer (some ⟨r, 0, none⟩), .pointer (some ⟨k, 0, none⟩), .pointer (some ⟨f, 0, none⟩), .int .i64 (mk : Int)] 74 (0, 0)) := by
    rw [heap_setCell_eq HBX5.out]; simp
  generalize w5.setCell ⟨m, 2, none⟩ (.pointer (some ⟨f, 0, none⟩)) = w6 at KL HBX6 ⊢
  have hmE := HM.out
  have s2 := HK2.out.size
  have s3 := HK3.out.size
  have s4 := HKS.out.size
  have s5 := HK5.out.size
  have s1 := HK1.out.size
  have K16 : Keep (fun _ => False) w1 w6 := by
    have K12 : Keep (fun z => z = m) w1 w6 := (HK2.out.mono fun _ _ h => h.elim).trans ((HK3.out.mono fun _ _ h => h.elim).trans (HKS.out.trans ((HK5.out.mono fun _ _ h => h.elim).trans KL)))
    exact K12.mono fun z hz e => by omega
  have hq6 : q < w6.heap.size := Nat.lt_of_lt_of_le (block_lt HRF.out.hq) KL.size
  have hR6 : RA w6 r rb n (fun _ => 0) := by
    have h5 := HRA4.out.keep HK5.out id id
    exact h5.keep KL (typ_ne h5.hr HBX5.out (by decide)) (by obtain ⟨c2, t2⟩ := h5.mb.typ; exact typ_ne t2 HBX5.out (by decide))
  have hF6 : Fr.RepF w6 f q (List.replicate n 0) := by
    have h5 := HRF.out
    exact ⟨(KL.block f (block_lt h5.hp) (typ_ne h5.hp HBX5.out (by decide))).trans h5.hp, (KL.block q (block_lt h5.hq) (typ_ne h5.hq HBX5.out (by decide))).trans h5.hq, h5.ne, h5.lo, h5.hi, h5.st⟩
  have hkrl := HO.out.mt.lt
  have hfq := HFQ.out
  have hrr := HR2.out
  have hA := HA.out
  refine ⟨m, r, rb, k, b, kr, f, q, rfl, ?_, HK1.out.trans K16⟩
  rintro ⟨_, _, _, _, _, _, _, _, _, _, _, _, _, _, _, _, _, _, _⟩ ⟨e1, e2, e3, e4, e5, e6, e7, e8, e9, ea, eb⟩
  simp only at e1 e2 e3 e4 e5 e6 e7 e8 e9 ea eb
  subst e1 e2 e3 e4 e5 e6 e7 e8 e9 ea eb
  exact ⟨HBX6, HO.out.addr K16 (by omega) hq6, hR6, hF6, by simp [P0], .inr rfl, by simp only [ne_eq]; omega, HN.out.2.2, by simp only; omega⟩

end Go.Proofs.YtjffdimlbppgcaaGreat
