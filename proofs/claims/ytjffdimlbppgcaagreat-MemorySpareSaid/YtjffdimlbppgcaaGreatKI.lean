/- Kinds: Take. -/
import Derived.Test.YtjffdimlbppgcaaGreatKH
set_option linter.unusedVariables false
set_option linter.unusedSimpArgs false
namespace Go.Proofs.YtjffdimlbppgcaaGreat
open Go.RowKit Go.Own

/-- What Take may change. -/
def KT3 (B b kr : Nat) (N : Nat → Prop) (w w' : World) : Prop := Keep (fun z => z = b ∨ GK B N w z ∨ z = kr) w w'
def TkC (w : World) (B k b kr n : Nat) (F : Nat → Bool) (M : Nat → Int) (N : Nat → Prop) (o : Nat) (x : Int) (e : Ending) (w' : World) : Prop :=
  ∃ D, IsBl F D ∧ ((tkP M D o x = none ∧ e = .returned (.tuple #[.int .i64 0, .int .i64 8]) ∧ Keep (fun _ => False) w w') ∨
    (∃ (y : Bk) (own : Bool), tkP M D o x = some (y, own) ∧ e = .returned (.tuple #[.int .i64 y.f, .int .i64 0]) ∧ KO w' B k b kr n (subB F o y.f.toNat) (tkM M o x y own) N ∧ KT3 B b kr N w w'))
theorem ktake_bad (p : Nat) (o x : Int) (h : o < 0 ∨ 8 < o ∨ x < 0 ∨ 2 < x) (w : World) : Calls Tryz.prog 38 #[.pointer (some ⟨p, 0, none⟩), .int .i64 o, .int .i64 x] w fun e w' => e = .returned (.tuple #[.int .i64 0, .int .i64 2]) ∧ w' = w := by
  by_cases h1 : o < 0
  · have t1 : decide (o < 0) = true := decide_eq_true h1
    clear h h1
    go_enter Tryz.func38, Tryz.ntmps38
    go_wp2
    go_ret2
    exact ⟨rfl, rfl⟩
  have t1 : decide (o < 0) = false := decide_eq_false h1
  by_cases h2 : 8 < o
  · have t2 : decide (8 < o) = true := decide_eq_true h2
    clear h h1 h2
    go_enter Tryz.func38, Tryz.ntmps38
    go_wp2
    go_ret2
    exact ⟨rfl, rfl⟩
  have t2 : decide (8 < o) = false := decide_eq_false h2
  by_cases h3 : x < 0
  · have t3 : decide (x < 0) = true := decide_eq_true h3
    clear h h1 h2 h3
    go_enter Tryz.func38, Tryz.ntmps38
    go_wp2
    go_ret2
    exact ⟨rfl, rfl⟩
  have t3 : decide (x < 0) = false := decide_eq_false h3
  have t4 : decide (2 < x) = true := by simp; omega
  clear h h1 h2 h3
  go_enter Tryz.func38, Tryz.ntmps38
  go_wp2
  go_ret2
  exact ⟨rfl, rfl⟩
theorem wrE_zero {n a k : Nat} (hk : k ≤ 8) (ha : a % 2 ^ k = 0) (hn : a + 2 ^ k ≤ n) : wrE n a k = 0 := by
  have := p2 k
  have e : ((a : Int)) % ((2 ^ k : Nat) : Int) = 0 := by rw [← Int.natCast_emod, ha]; rfl
  unfold wrE
  rw [Int.toNat_natCast, if_neg (by omega), if_neg (by omega)]
/-- TakeAt of a piece. -/
theorem tk_at {w : World} {B k b kr n a o q : Nat} {F : Nat → Bool} {M : Nat → Int} {N : Nat → Prop} (h : KO w B k b kr n F M N) (hq : q ≤ 8) (ha : a % 2 ^ q = 0) (hb : blk F q a) (hoq : o ≤ q) :
    Calls Tryz.prog 69 #[.pointer (some ⟨b, 0, none⟩), .int .i64 (a : Int), .int .i64 (o : Int)] w fun e w' => e = .returned (.int .i64 0) ∧ KO w' B k b kr n (subB F o a) M N ∧ KB3 B b N w w' := by
  have hao := Nat.mod_eq_zero_of_dvd (Nat.dvd_trans (Nat.pow_dvd_pow 2 hoq) (Nat.dvd_of_mod_eq_zero ha))
  have hbo : blk F o a := blk_in hb (Nat.le_refl _) (by have := Nat.pow_le_pow_right (n := 2) (by decide) hoq; omega)
  have hend := blk_end h.bf.fin hbo
  refine (takeAt_ok h.hB h.bf (fun z hz => hz.1.2.1) (wrE_zero (by omega) hao hend) (by omega) hao hend hbo).mono ?_
  rintro e w' ⟨rfl, ht⟩
  exact ⟨rfl, h.took ht⟩
theorem pcO_fine {F : Nat → Bool} {M : Nat → Int} {D : List Bk} {n : Nat} {o : Int} (hb : IsBl F D) (hF : ∀ i, F i = true → i < n) {y : Bk} (h : y ∈ pcO M D o) : fineP F n y ∧ o ≤ y.o := by
  unfold pcO at h
  rw [List.mem_filter] at h
  exact ⟨pcs_fine hb hF h.1, by simpa using h.2⟩
theorem fine_ok {F : Nat → Bool} {n : Nat} {y : Bk} (h : fineP F n y) : okP n y := by
  obtain ⟨a, k, rfl, h1, h2, h3, h4⟩ := h
  exact ⟨a, k, rfl, by have := p2 k; omega, h1⟩
theorem kb3_block {w w' : World} {B b e q : Nat} {N : Nat → Prop} {c : Array Value} (hp : ∃ c, w.heap[b]? = some (.cells c 118 (0, 0))) (k : KB3 B b N w w') (hb : w.heap[q]? = some (.cells c e (0, 0))) (he : e ≠ 118 ∧ e ≠ 3) : w'.heap[q]? = some (.cells c e (0, 0)) := by
  rw [k.block q (block_lt hb) ?_]
  · exact hb
  · rintro (rfl | ⟨_, c2, h2⟩)
    · obtain ⟨c, hc⟩ := hp
      exact typ_ne hb hc he.1 rfl
    · exact typ_ne hb h2 he.2 rfl

theorem kb3_on {w w1 w2 : World} {B b : Nat} {N : Nat → Prop} (K : Keep (fun _ => False) w w1) (k : KB3 B b N w1 w2) : KB3 B b N w w2 := by
  refine ⟨k.os.trans K.os, k.tape.trans K.tape, k.output.trans K.output, Nat.le_trans K.size k.size, fun z hz hs => ?_⟩
  rw [k.block z (Nat.lt_of_lt_of_le hz K.size) ?_]
  · exact K.block z hz id
  · rintro (h | ⟨⟨h1, _, h3⟩, c, h2⟩)
    · exact hs (.inl h)
    · exact hs (.inr ⟨⟨h1, hz, h3⟩, c, (K.block z hz id).symm.trans h2⟩)
theorem kt3_of {w w1 w2 : World} {B b kr : Nat} {N : Nat → Prop} (K : Keep (fun _ => False) w w1) (k : KB3 B b N w1 w2) : KT3 B b kr N w w2 :=
  (kb3_on K k).mono fun z _ h => by
    rcases h with h | h
    · exact .inl h
    · exact .inr (.inl h)
theorem tkM_own (M : Nat → Int) (o x : Int) (y : Bk) : tkM M o x y true = M := by
  funext i; unfold tkM; rw [if_neg (by simp)]

theorem KO.other {w w' : World} {B k b kr n : Nat} {F : Nat → Bool} {M : Nat → Int} {N S : Nat → Prop} (h : KO w B k b kr n F M N) (K : Keep S w w') (hS : ∀ z, S z → ∃ c, w.heap[z]? = some (.cells c 96 (0, 0))) : KO w' B k b kr n F M N := by
  have hn : ∀ b e c, w.heap[b]? = some (.cells c e (0, 0)) → e ≠ 96 → ¬ S b := fun b e c hb he hs => by
    obtain ⟨c2, h2⟩ := hS b hs
    exact typ_ne hb h2 he rfl
  obtain ⟨c, hc⟩ := h.bf.hp
  obtain ⟨c2, h2⟩ := h.mt.typ
  refine ⟨(K.block k (block_lt h.hk) (hn _ _ _ h.hk (by decide))).trans h.hk, (h.bf.keep K (hn _ _ _ hc (by decide)) ?_).gk (fun z hz => hz.1.2.2), h.mt.keep K (hn _ _ _ h2 (by decide)), h.nk, fun z hz => Nat.lt_of_lt_of_le (h.nl z hz) K.size, Nat.le_trans h.hB K.size⟩
  rintro z ⟨_, c3, h3⟩
  exact hn _ _ _ h3 (by decide)

theorem setM_range {M : Nat → Int} {a u s8 : Nat} (x : Int) (h : s8 = a / 8 + u) (i : Nat) : setM (fun i => if a / 8 ≤ i ∧ i < a / 8 + u then x else M i) s8 x i = if a / 8 ≤ i ∧ i < a / 8 + (u + 1) then x else M i := by
  unfold setM
  by_cases h1 : i = s8
  · rw [if_pos h1, if_pos (by omega)]
  · rw [if_neg h1]
    show (if a / 8 ≤ i ∧ i < a / 8 + u then x else M i) = _
    by_cases h2 : a / 8 ≤ i ∧ i < a / 8 + u
    · rw [if_pos h2, if_pos (by omega)]
    · rw [if_neg h2, if_neg (by omega)]
theorem tkM_is {M : Nat → Int} {a q o u t E : Nat} {x : Int} (h3 : 3 ≤ q) (h8 : a % 8 = 0) (ht : t = a + 8 * u) (hu : u = 0 ∨ t < E + 8) (hE : E ≤ t) (hP : E = a + 2 ^ o) (i : Nat) :
    (if a / 8 ≤ i ∧ i < a / 8 + u then x else M i) = tkM M o x ⟨(a : Int), (q : Int)⟩ false i := by
  have hp := p2 o
  unfold tkM
  simp only [Int.toNat_natCast, true_and]
  by_cases h : a / 8 ≤ i ∧ i < a / 8 + u
  · rw [if_pos h, if_pos ⟨by omega, by omega, by omega⟩]
  · rw [if_neg h, if_neg (by omega)]
theorem step8 {t a u : Nat} (h : t = a + 8 * u) : t + 8 = a + 8 * (u + 1) := by omega
theorem sec_at {t a u n E : Nat} (ht : t = a + 8 * u) (ha : a % 8 = 0) (hlt : t < E) (hE : E ≤ n) (hn : n ≤ 1024) :
    ∃ s8 : Nat, Hid (s8 = a / 8 + u) ∧ s8 < sec n ∧ Int.tdiv (t : Int) 8 = (s8 : Int) ∧ (t : Int) / 8 = (s8 : Int) ∧ (0 : Int) ≤ s8 ∧ (s8 : Int) < sec n ∧ wrap64 (s8 : Int) = (s8 : Int) ∧ IntKind.i64.wrap (s8 : Int) = (s8 : Int) ∧ (t : Int) < 2000 := by
  have h1 : t / 8 < sec n := sec_lt (by omega)
  refine ⟨t / 8, ?_, h1, (Int.ofNat_tdiv t 8).symm, (Int.natCast_ediv t 8).symm, by omega, by omega, IntWalk.wrap64_in _ (by omega), IntWalk.i64_in _ (by omega), by omega⟩
  show t / 8 = _
  omega
theorem kt3_mid {w w7 wr w5 : World} {B b kr : Nat} {N : Nat → Prop} (K : Keep (fun _ => False) w w7) (K7 : Keep (fun z => z = kr) w7 wr) (k : KB3 B b N wr w5) : KT3 B b kr N w w5 := by
  refine ⟨((k.os.trans K7.os).trans K.os), ((k.tape.trans K7.tape).trans K.tape), ((k.output.trans K7.output).trans K.output), Nat.le_trans K.size (Nat.le_trans K7.size k.size), fun z hz hs => ?_⟩
  have e7 : wr.heap[z]? = w.heap[z]? := (K7.block z (Nat.lt_of_lt_of_le hz K.size) (fun e => hs (.inr (.inr e)))).trans (K.block z hz id)
  rw [k.block z (Nat.lt_of_lt_of_le hz (Nat.le_trans K.size K7.size)) ?_]
  · exact e7
  · rintro (h | ⟨⟨h1, _, h3⟩, c, h2⟩)
    · exact hs (.inl h)
    · exact hs (.inr (.inl ⟨⟨h1, hz, h3⟩, c, e7.symm.trans h2⟩))
theorem index2a (V0 V1 : Value) (W : World) : Sem.run Tryz.prog (Instr.index 108 (.agg #[V0, V1]) (.int .i64 0)) W = Result.ok V0 W := by
  simp [Instr.index, go_sem, Tryz.underlying108]
theorem index2b (V0 V1 : Value) (W : World) : Sem.run Tryz.prog (Instr.index 108 (.agg #[V0, V1]) (.int .i64 1)) W = Result.ok V1 W := by
  simp [Instr.index, go_sem, Tryz.underlying108]

set_option maxRecDepth 100000 in
set_option maxHeartbeats 4000000 in
theorem ktake_any {w : World} {B k b kr n : Nat} {F : Nat → Bool} {M : Nat → Int} {N : Nat → Prop} (o : Nat) (x : Int) (h : KO w B k b kr n F M N) (ho : o ≤ 8) (hx : x = 0 ∨ x = 1 ∨ x = 2) :
    Calls Tryz.prog 38 #[.pointer (some ⟨k, 0, none⟩), .int .i64 (o : Int), .int .i64 x] w (TkC w B k b kr n F M N o x) := by
  have HO := Lib.hid h
  have HX := Lib.hid hx
  have t1 : decide ((o : Int) < 0) = false := by simp
  have t2 : decide (8 < (o : Int)) = false := by simp; omega
  have t2' : decide (8 < o) = false := by simp; omega
  have t3 : decide (x < 0) = false := by simp; omega
  have t4 : decide (2 < x) = false := by simp; omega
  clear h hx
  go_enter Tryz.func38, Tryz.ntmps38
  go_wp2_with fail
  refine (pieces_any (o : Int) HO.out).mono ?_
  rintro e w1 ⟨v, D, rfl, hI, hv, hl, hk1⟩
  have HO1 := Lib.hid (HO.out.keep0 hk1)
  have HK1 := Lib.hid hk1
  have HI := Lib.hid hI
  have HV := Lib.hid hv
  have HL := Lib.hid hl
  have HFI : Hid (∀ y, y ∈ pcO M D o → fineP F n y ∧ (o : Int) ≤ y.o) := fun y hy => pcO_fine hI HO.out.bf.fin hy
  clear hk1 hI hv hl
  go_wp2_with fail
  refine (best_any v _ x false HO1.out HV.out (fun y hy => fine_ok (HFI.out y hy).1) HL.out).mono ?_
  rintro e w2 ⟨rfl, hk2⟩
  have HO2 := Lib.hid (HO1.out.keep0 hk2)
  have HK2 := Lib.hid (HK1.out.trans hk2)
  have HV2 := Lib.hid (HV.out.keep hk2 (fun _ _ => id))
  clear hk2 HO1 HK1 HV
  cases hb1 : bst M x false (pcO M D o) with
  | some y =>
    obtain ⟨⟨a, q, rfl, hq8, haq, hbq, hend⟩, hoq⟩ := HFI.out y (bst_in hb1).1
    have HTK : Hid (tkP M D o x = some (⟨a, q⟩, true)) := by unfold Hid tkP; rw [hb1]
    simp only [fb, Option.getD_some, Option.isSome_some]
    have HBX : Hid ((w2.alloc (.cells #[.int .i64 (a : Int), .int .i64 (q : Int)] 96)).heap[w2.heap.size]? = some (.cells #[.int .i64 (a : Int), .int .i64 (q : Int)] 96 (0, 0))) := heap_alloc_new w2 _
    have HO3 := Lib.hid (HO2.out.keep0 ((Keep.refl (fun _ => False) w2).alloc (.cells #[.int .i64 (a : Int), .int .i64 (q : Int)] 96)))
    have HK3 : Hid (Keep (fun _ => False) w (w2.alloc (.cells #[.int .i64 (a : Int), .int .i64 (q : Int)] 96))) := HK2.out.alloc _
    have HQ := Lib.hid (And.intro hq8 (And.intro haq (And.intro hbq (show o ≤ q by simpa using hoq))))
    clear hq8 haq hbq hend hoq
    go_wp2
    obtain ⟨b9, hb9⟩ : ∃ b9, w2.heap.size = b9 := ⟨_, rfl⟩
    rw [hb9] at HBX ⊢
    generalize w2.alloc (.cells #[.int .i64 (a : Int), .int .i64 (q : Int)] 96) = w3 at HBX HO3 HK3 ⊢
    clear hb9
    obtain ⟨e0, e1⟩ := cell2b HBX.out
    obtain ⟨z0, -, -⟩ := cells3 HO3.out.hk
    go_region_held3 (fun w' => w'.cell? ⟨b9, 0, none⟩ = some (.int .i64 (a : Int)) ∧ w'.cell? ⟨k, 0, none⟩ = some (.pointer (some ⟨b, 0, none⟩)))
      (first | exact HC5.out | exact ⟨e0, z0⟩)
      (first | (go_at_call 69; refine (tk_at (HO3.out.keep0 (by (repeat (first | exact Keep.refl _ _ | exact Keep.refl _ _ | refine Keep.drew ?_ | refine Keep.drewN ?_ _ | refine Keep.alloc ?_ _ | refine Keep.setNew ?_ (by omega) _)); done)) HQ.out.1 HQ.out.2.1 HQ.out.2.2.1 HQ.out.2.2.2).mono ?_; rintro e w5 ⟨rfl, hO5, hk5⟩; have HO5 := Lib.hid hO5; have HK5 : Hid (KB3 B b N w3 w5) := kb3_on (by (repeat (first | exact Keep.refl _ _ | exact Keep.refl _ _ | refine Keep.drew ?_ | refine Keep.drewN ?_ _ | refine Keep.alloc ?_ _ | refine Keep.setNew ?_ (by omega) _)); done) hk5; have HC5 : Hid (w5.cell? ⟨b9, 0, none⟩ = some (.int .i64 (a : Int)) ∧ w5.cell? ⟨k, 0, none⟩ = some (.pointer (some ⟨b, 0, none⟩))) := ⟨(cell2b (kb3_block HO3.out.bf.hp HK5.out HBX.out (by decide))).1, (cells3 hO5.hk).1⟩; clear hO5 hk5))
    all_goals
      go_wp2
      go_ret2
      exact ⟨D, HI.out, .inr ⟨⟨(a : Int), (q : Int)⟩, true, HTK.out, rfl, by rw [tkM_own]; simpa using HO5.out, kt3_of HK3.out HK5.out⟩⟩
  | none =>
    simp only [fb, Option.getD_none, Option.isSome_none]
    have HB9 : Hid ((w2.alloc (.cells #[.int .i64 0, .int .i64 0] 96)).heap[w2.heap.size]? = some (.cells #[.int .i64 0, .int .i64 0] 96 (0, 0))) := heap_alloc_new w2 _
    have HO3 := Lib.hid (HO2.out.keep0 ((Keep.refl (fun _ => False) w2).alloc (.cells #[.int .i64 0, .int .i64 0] 96)))
    have HK3 : Hid (Keep (fun _ => False) w (w2.alloc (.cells #[.int .i64 0, .int .i64 0] 96))) := HK2.out.alloc _
    have HV3 := Lib.hid (HV2.out.keep ((Keep.refl (fun _ => False) w2).alloc (.cells #[.int .i64 0, .int .i64 0] 96)) (fun _ _ => id))
    have HNB1 := Lib.hid hb1
    have HSZ : Hid (w.heap.size ≤ w2.heap.size) := HK2.out.size
    have HVB : Hid (¬ v.ownBlock = some w2.heap.size) := fun e => by have := (HV2.out.lt _ e).2; omega
    go_wp2_with fail
    obtain ⟨b9, hb9⟩ : ∃ b9, w2.heap.size = b9 := ⟨_, rfl⟩
    rw [hb9] at HB9 HSZ HVB ⊢
    generalize w2.alloc (.cells #[.int .i64 0, .int .i64 0] 96) = w3 at HB9 HO3 HK3 HV3 ⊢
    clear hb9 hb1 HO2 HK2 HV2
    refine (others_any x HX.out _).mono ?_
    rintro e w4 ⟨rfl, hk4⟩
    have HO4 := Lib.hid (HO3.out.keep0 hk4)
    have HK4 := Lib.hid (HK3.out.trans hk4)
    have HV4 := Lib.hid (HV3.out.keep hk4 (fun _ _ => id))
    have HB4 := Lib.hid ((hk4.block b9 (block_lt HB9.out) id).trans HB9.out)
    clear hk4 HO3 HK3 HV3 HB9
    go_wp2
    go_loopw [10, 46] (fun okv i wr => ∃ j : Nat, j ≤ 2 ∧ i = .int .i64 (j : Int) ∧ okv = .bool false ∧ (1 ≤ j → bst M (oth2 x).1 true (pcO M D o) = none) ∧ (2 ≤ j → bst M (oth2 x).2 true (pcO M D o) = none) ∧ KO wr B k b kr n F M N ∧ Keep (fun _ => False) w wr ∧ OwnL bkE wr w.heap.size 96 v (pcO M D o) ∧ wr.heap[b9]? = some (.cells #[.int .i64 0, .int .i64 0] 96 (0, 0))) (fun _ i _ => 2 - (intOf i).toNat)
    case atStart => exact ⟨0, by omega, rfl, rfl, fun h => by omega, fun h => by omega, HO4.out, HK4.out, HV4.out, HB4.out⟩
    case round =>
      obtain ⟨j, hj, rfl, rfl, hn1, hn2, hO, hK, hV, hB⟩ := hrel
      have HO5 := Lib.hid hO
      have HK5 := Lib.hid hK
      have HV5 := Lib.hid hV
      have HB5 := Lib.hid hB
      have HN1 := Lib.hid hn1
      have HN2 := Lib.hid hn2
      clear hO hK hV hB hn1 hn2 HO4 HK4 HV4 HB4
      have hj3 : j = 0 ∨ j = 1 ∨ j = 2 := by omega
      have hix0 := index2a (.int .i64 (oth2 x).1) (.int .i64 (oth2 x).2)
      have hix1 := index2b (.int .i64 (oth2 x).1) (.int .i64 (oth2 x).2)
      rcases hj3 with rfl | rfl | rfl
      · go_wp2_with fail
        refine (best_any v _ (oth2 x).1 true (HO5.out.keep0 (by (repeat (first | exact Keep.refl _ _ | exact Keep.refl _ _ | refine Keep.drew ?_ | refine Keep.drewN ?_ _ | refine Keep.alloc ?_ _ | refine Keep.setNew ?_ (by omega) _)); done)) HV5.out (fun y hy => fine_ok (HFI.out y hy).1) HL.out).mono ?_
        rintro e w6 ⟨rfl, hk6⟩
        have HO6 := Lib.hid (HO5.out.keep0 hk6)
        have HK6 := Lib.hid (HK5.out.trans hk6)
        have HV6 := Lib.hid (HV5.out.keep hk6 (fun _ _ => id))
        have HB6 := Lib.hid ((hk6.block b9 (block_lt HB5.out) id).trans HB5.out)
        clear hk6 HO5 HK5 HV5 HB5
        obtain ⟨c0, c1⟩ := cell2b HB6.out
        have f0 : w6.frozen? ⟨b9, 0, none⟩ = false := frozen_block HB6.out
        have f1 : w6.frozen? ⟨b9, 1, none⟩ = false := frozen_block HB6.out
        cases hb2 : bst M (oth2 x).1 true (pcO M D o) with
        | some y =>
          obtain ⟨⟨a, q, rfl, hq8, haq, hbq, hend⟩, hoq⟩ := HFI.out y (bst_in hb2).1
          have HTK : Hid (tkP M D o x = some (⟨a, q⟩, false)) := by unfold Hid tkP; (rw [HNB1.out]; simp only [hb2])
          have HQ := Lib.hid (And.intro hq8 (And.intro haq (And.intro hbq (show o ≤ q by simpa using hoq))))
          simp only [fb, Option.getD_some, Option.isSome_some]
          have HBX : Hid (((w6.setCell ⟨b9, 0, none⟩ (.int .i64 (a : Int))).setCell ⟨b9, 1, none⟩ (.int .i64 (q : Int))).heap[b9]? = some (.cells #[.int .i64 (a : Int), .int .i64 (q : Int)] 96 (0, 0))) := set2 HB6.out
          have hks : Keep (fun z => z = b9) w6 ((w6.setCell ⟨b9, 0, none⟩ (.int .i64 (a : Int))).setCell ⟨b9, 1, none⟩ (.int .i64 (q : Int))) := ((Keep.refl (fun z => z = b9) w6).setCell (p := ⟨b9, 0, none⟩) (fun _ => rfl) _).setCell (p := ⟨b9, 1, none⟩) (fun _ => rfl) _
          have HO3 := Lib.hid (HO6.out.other hks (fun z hz => by subst hz; exact ⟨_, HB6.out⟩))
          have HK3 : Hid (Keep (fun _ => False) w ((w6.setCell ⟨b9, 0, none⟩ (.int .i64 (a : Int))).setCell ⟨b9, 1, none⟩ (.int .i64 (q : Int)))) := keep_fresh HK6.out hks (fun z hz => by subst hz; exact HSZ.out)
          clear hks hq8 haq hbq hend hoq hb2
          by_cases hq3 : 3 ≤ q
          · have u0 : decide (3 ≤ (q : Int)) = true := by simp; omega
            have u0' : decide (3 ≤ q) = true := by simp; omega
            have HQ3 := Lib.hid hq3
            obtain ⟨P, hP, e1, e2, hpb, -⟩ := bits_k o a ho (by have := HO3.out.bf.n1024; have := blk_end HO3.out.bf.fin HQ.out.2.2.1; have := p2 q; omega)
            have hae : a + P ≤ n := by rw [hP]; have := blk_end HO3.out.bf.fin HQ.out.2.2.1; have := Nat.pow_le_pow_right (n := 2) (by decide) HQ.out.2.2.2; omega
            have hn1 := HO3.out.bf.n1024
            have ha8 : a % 8 = 0 := by have := mod_of_le (j := 3) hq3 HQ.out.2.1; simpa using this
            have hwe : IntKind.i64.wrap ((a : Int) + (P : Int)) = ((a + P : Nat) : Int) := wsum a P (by omega) (by omega)
            obtain ⟨E, hE⟩ : ∃ E, a + P = E := ⟨_, rfl⟩
            rw [hE] at hwe hae
            have HEP : Hid (E = a + 2 ^ o) := by show E = _; rw [← hE, hP]
            have HA8 := Lib.hid ha8
            have HEN := Lib.hid (And.intro hae hn1)
            clear hq3 hE hP
            go_wp2
            clear c0 c1 f0 f1
            generalize (w6.setCell ⟨b9, 0, none⟩ (.int .i64 (a : Int))).setCell ⟨b9, 1, none⟩ (.int .i64 (q : Int)) = w7 at HBX HO3 HK3 ⊢
            go_loopw [13] (fun i wr => ∃ t u : Nat, i = .int .i64 (t : Int) ∧ t = a + 8 * u ∧ (u = 0 ∨ t < E + 8) ∧ KO wr B k b kr n F (fun i => if a / 8 ≤ i ∧ i < a / 8 + u then x else M i) N ∧ wr.heap[b9]? = some (.cells #[.int .i64 (a : Int), .int .i64 (q : Int)] 96 (0, 0)) ∧ Keep (fun z => z = kr) w7 wr) (fun i _ => 3000 - (intOf i).toNat)
            case atStart => exact ⟨a, 0, rfl, by omega, .inl rfl, HO3.out.congr (fun i _ => by rw [if_neg (by omega)]), HBX.out, Keep.refl _ _⟩
            case round =>
              obtain ⟨t, u, rfl, ht, htu, hO7, hB7, hK7⟩ := hrel
              have HO7 := Lib.hid hO7
              have HB7 := Lib.hid hB7
              have HK7 := Lib.hid hK7
              have HTU := Lib.hid (And.intro ht htu)
              obtain ⟨b0, b1⟩ := cell2b hB7
              clear hO7 hB7 hK7
              by_cases hlt : t < E
              · have t1 : decide ((t : Int) < (E : Int)) = true := decide_eq_true (Int.ofNat_lt.mpr hlt)
                have t2 : decide (t < E) = true := decide_eq_true hlt
                obtain ⟨s8, HS8, hs9, hq1, hq2, hq4, hq5, hq6, hq7, ht2⟩ := sec_at HTU.out.1 HA8.out hlt HEN.out.1 HEN.out.2
                have HLT := Lib.hid hlt
                have hc := HO7.out.mt.cell hs9
                have hfz := HO7.out.mt.frozen s8
                obtain ⟨z0, z1, z2⟩ := cells3 HO7.out.hk
                clear ht htu hlt
                go_wp2
                go_quiet (fail)
                go_wp2
                go_roundw
                case rel => exact ⟨t + 8, u + 1, by go_num, step8 HTU.out.1, .inr (Nat.add_lt_add_right HLT.out 8), ((HO7.out.keep0 (by (repeat (first | exact Keep.refl _ _ | exact Keep.refl _ _ | refine Keep.drew ?_ | refine Keep.drewN ?_ _ | refine Keep.alloc ?_ _ | refine Keep.setNew ?_ (by omega) _)); done)).setM (i := s8) x).1.congr (fun i _ => setM_range x HS8.out i), by (rw [heap_setCell_ne (typ_ne HB7.out (HO7.out.mt.typ.choose_spec) (by decide))]; exact HB7.out), (HK7.out.trans (by (repeat (first | exact Keep.refl _ _ | exact Keep.refl _ _ | refine Keep.drew ?_ | refine Keep.drewN ?_ _ | refine Keep.alloc ?_ _ | refine Keep.setNew ?_ (by omega) _)); done)).setCell (p := ⟨kr, s8, none⟩) (fun _ => rfl) _⟩
                case measure => (clear hq1 hq2 hq6 hq7 e1 e2 hwe; simp [intOf]; omega)
              · have t1 : decide ((t : Int) < (E : Int)) = false := decide_eq_false (fun h => hlt (Int.ofNat_lt.mp h))
                have t2 : decide (t < E) = false := decide_eq_false hlt
                have HMM : Hid (∀ i, (if a / 8 ≤ i ∧ i < a / 8 + u then x else M i) = tkM M o x ⟨(a : Int), (q : Int)⟩ false i) := fun i => tkM_is HQ3.out HA8.out HTU.out.1 HTU.out.2 (Nat.le_of_not_lt hlt) HEP.out i
                clear ht htu
                have HOM := Lib.hid (HO7.out.congr (fun i _ => HMM.out i))
                go_wp2
                go_quiet (fail)
                go_wp2
                generalize hw3 : World.drewN wr _ = w3
                have HDN : Hid (Keep (fun _ => False) wr w3) := by rw [← hw3]; exact (by (repeat (first | exact Keep.refl _ _ | exact Keep.refl _ _ | refine Keep.drew ?_ | refine Keep.drewN ?_ _ | refine Keep.alloc ?_ _ | refine Keep.setNew ?_ (by omega) _)); done)
                have HO3' := Lib.hid (HOM.out.keep0 HDN.out)
                have HBX' := Lib.hid ((HDN.out.block b9 (block_lt HB7.out) id).trans HB7.out)
                clear HO3 HBX hw3 b0 b1
                have HO3 := HO3'
                have HBX := HBX'
                obtain ⟨e0, e1⟩ := cell2b HBX.out
                obtain ⟨z0, -, -⟩ := cells3 HO3.out.hk
                go_region_held3 (fun w' => w'.cell? ⟨b9, 0, none⟩ = some (.int .i64 (a : Int)) ∧ w'.cell? ⟨k, 0, none⟩ = some (.pointer (some ⟨b, 0, none⟩)))
                  (first | exact HC5.out | exact ⟨e0, z0⟩)
                  (first | (go_at_call 69; refine (tk_at (HO3.out.keep0 (by (repeat (first | exact Keep.refl _ _ | exact Keep.refl _ _ | refine Keep.drew ?_ | refine Keep.drewN ?_ _ | refine Keep.alloc ?_ _ | refine Keep.setNew ?_ (by omega) _)); done)) HQ.out.1 HQ.out.2.1 HQ.out.2.2.1 HQ.out.2.2.2).mono ?_; rintro e w5 ⟨rfl, hO5, hk5⟩; have HO5 := Lib.hid hO5; have HK5 : Hid (KB3 B b N w3 w5) := kb3_on (by (repeat (first | exact Keep.refl _ _ | exact Keep.refl _ _ | refine Keep.drew ?_ | refine Keep.drewN ?_ _ | refine Keep.alloc ?_ _ | refine Keep.setNew ?_ (by omega) _)); done) hk5; have HC5 : Hid (w5.cell? ⟨b9, 0, none⟩ = some (.int .i64 (a : Int)) ∧ w5.cell? ⟨k, 0, none⟩ = some (.pointer (some ⟨b, 0, none⟩))) := ⟨(cell2b (kb3_block HO3.out.bf.hp HK5.out HBX.out (by decide))).1, (cells3 hO5.hk).1⟩; clear hO5 hk5))
                all_goals
                  go_wp2
                  go_ret2
                  exact ⟨D, HI.out, .inr ⟨⟨(a : Int), (q : Int)⟩, false, HTK.out, rfl, by simpa using HO5.out, kt3_mid HK3.out HK7.out (kb3_on HDN.out HK5.out)⟩⟩
          · have u0 : decide (3 ≤ (q : Int)) = false := by simp; omega
            have u0' : decide (3 ≤ q) = false := by simp; omega
            have HMM : Hid (tkM M o x ⟨(a : Int), (q : Int)⟩ false = M) := by funext i; unfold tkM; rw [if_neg (by simp; omega)]
            clear hq3
            go_wp2
            generalize (w6.setCell ⟨b9, 0, none⟩ (.int .i64 (a : Int))).setCell ⟨b9, 1, none⟩ (.int .i64 (q : Int)) = w3 at HBX HO3 HK3 ⊢
            obtain ⟨e0, e1⟩ := cell2b HBX.out
            obtain ⟨z0, -, -⟩ := cells3 HO3.out.hk
            go_region_held3 (fun w' => w'.cell? ⟨b9, 0, none⟩ = some (.int .i64 (a : Int)) ∧ w'.cell? ⟨k, 0, none⟩ = some (.pointer (some ⟨b, 0, none⟩)))
              (first | exact HC5.out | exact ⟨e0, z0⟩)
              (first | (go_at_call 69; refine (tk_at (HO3.out.keep0 (by (repeat (first | exact Keep.refl _ _ | exact Keep.refl _ _ | refine Keep.drew ?_ | refine Keep.drewN ?_ _ | refine Keep.alloc ?_ _ | refine Keep.setNew ?_ (by omega) _)); done)) HQ.out.1 HQ.out.2.1 HQ.out.2.2.1 HQ.out.2.2.2).mono ?_; rintro e w5 ⟨rfl, hO5, hk5⟩; have HO5 := Lib.hid hO5; have HK5 : Hid (KB3 B b N w3 w5) := kb3_on (by (repeat (first | exact Keep.refl _ _ | exact Keep.refl _ _ | refine Keep.drew ?_ | refine Keep.drewN ?_ _ | refine Keep.alloc ?_ _ | refine Keep.setNew ?_ (by omega) _)); done) hk5; have HC5 : Hid (w5.cell? ⟨b9, 0, none⟩ = some (.int .i64 (a : Int)) ∧ w5.cell? ⟨k, 0, none⟩ = some (.pointer (some ⟨b, 0, none⟩))) := ⟨(cell2b (kb3_block HO3.out.bf.hp HK5.out HBX.out (by decide))).1, (cells3 hO5.hk).1⟩; clear hO5 hk5))
            all_goals
              go_wp2
              go_ret2
              exact ⟨D, HI.out, .inr ⟨⟨(a : Int), (q : Int)⟩, false, HTK.out, rfl, by rw [HMM.out]; simpa using HO5.out, kt3_of HK3.out HK5.out⟩⟩
        | none =>
          simp only [fb, Option.getD_none, Option.isSome_none]
          have hks : Keep (fun z => z = b9) w6 ((w6.setCell ⟨b9, 0, none⟩ (.int .i64 0)).setCell ⟨b9, 1, none⟩ (.int .i64 0)) := ((Keep.refl (fun z => z = b9) w6).setCell (p := ⟨b9, 0, none⟩) (fun _ => rfl) _).setCell (p := ⟨b9, 1, none⟩) (fun _ => rfl) _
          have HO8 := Lib.hid (HO6.out.other hks (fun z hz => by subst hz; exact ⟨_, HB6.out⟩))
          have HK8 : Hid (Keep (fun _ => False) w ((w6.setCell ⟨b9, 0, none⟩ (.int .i64 0)).setCell ⟨b9, 1, none⟩ (.int .i64 0))) := keep_fresh HK6.out hks (fun z hz => by subst hz; exact HSZ.out)
          have HB8 : Hid (((w6.setCell ⟨b9, 0, none⟩ (.int .i64 0)).setCell ⟨b9, 1, none⟩ (.int .i64 0)).heap[b9]? = some (.cells #[.int .i64 0, .int .i64 0] 96 (0, 0))) := set2 HB6.out
          have HV8 : Hid (OwnL bkE ((w6.setCell ⟨b9, 0, none⟩ (.int .i64 0)).setCell ⟨b9, 1, none⟩ (.int .i64 0)) w.heap.size 96 v (pcO M D o)) := HV6.out.keep hks (fun z hz e => by subst e; exact HVB.out hz)
          have HNB2 := Lib.hid hb2
          clear hks hb2
          go_wp2
          go_roundw
          case rel => exact ⟨1, by omega, by go_num, rfl, fun _ => HNB2.out, fun h => by omega, HO8.out, HK8.out, HV8.out, HB8.out⟩
          case measure => simp [intOf]
      · go_wp2_with fail
        refine (best_any v _ (oth2 x).2 true (HO5.out.keep0 (by (repeat (first | exact Keep.refl _ _ | exact Keep.refl _ _ | refine Keep.drew ?_ | refine Keep.drewN ?_ _ | refine Keep.alloc ?_ _ | refine Keep.setNew ?_ (by omega) _)); done)) HV5.out (fun y hy => fine_ok (HFI.out y hy).1) HL.out).mono ?_
        rintro e w6 ⟨rfl, hk6⟩
        have HO6 := Lib.hid (HO5.out.keep0 hk6)
        have HK6 := Lib.hid (HK5.out.trans hk6)
        have HV6 := Lib.hid (HV5.out.keep hk6 (fun _ _ => id))
        have HB6 := Lib.hid ((hk6.block b9 (block_lt HB5.out) id).trans HB5.out)
        clear hk6 HO5 HK5 HV5 HB5
        obtain ⟨c0, c1⟩ := cell2b HB6.out
        have f0 : w6.frozen? ⟨b9, 0, none⟩ = false := frozen_block HB6.out
        have f1 : w6.frozen? ⟨b9, 1, none⟩ = false := frozen_block HB6.out
        cases hb2 : bst M (oth2 x).2 true (pcO M D o) with
        | some y =>
          obtain ⟨⟨a, q, rfl, hq8, haq, hbq, hend⟩, hoq⟩ := HFI.out y (bst_in hb2).1
          have HTK : Hid (tkP M D o x = some (⟨a, q⟩, false)) := by unfold Hid tkP; (rw [HNB1.out, HN1.out (by omega)]; simp only [hb2])
          have HQ := Lib.hid (And.intro hq8 (And.intro haq (And.intro hbq (show o ≤ q by simpa using hoq))))
          simp only [fb, Option.getD_some, Option.isSome_some]
          have HBX : Hid (((w6.setCell ⟨b9, 0, none⟩ (.int .i64 (a : Int))).setCell ⟨b9, 1, none⟩ (.int .i64 (q : Int))).heap[b9]? = some (.cells #[.int .i64 (a : Int), .int .i64 (q : Int)] 96 (0, 0))) := set2 HB6.out
          have hks : Keep (fun z => z = b9) w6 ((w6.setCell ⟨b9, 0, none⟩ (.int .i64 (a : Int))).setCell ⟨b9, 1, none⟩ (.int .i64 (q : Int))) := ((Keep.refl (fun z => z = b9) w6).setCell (p := ⟨b9, 0, none⟩) (fun _ => rfl) _).setCell (p := ⟨b9, 1, none⟩) (fun _ => rfl) _
          have HO3 := Lib.hid (HO6.out.other hks (fun z hz => by subst hz; exact ⟨_, HB6.out⟩))
          have HK3 : Hid (Keep (fun _ => False) w ((w6.setCell ⟨b9, 0, none⟩ (.int .i64 (a : Int))).setCell ⟨b9, 1, none⟩ (.int .i64 (q : Int)))) := keep_fresh HK6.out hks (fun z hz => by subst hz; exact HSZ.out)
          clear hks hq8 haq hbq hend hoq hb2
          by_cases hq3 : 3 ≤ q
          · have u0 : decide (3 ≤ (q : Int)) = true := by simp; omega
            have u0' : decide (3 ≤ q) = true := by simp; omega
            have HQ3 := Lib.hid hq3
            obtain ⟨P, hP, e1, e2, hpb, -⟩ := bits_k o a ho (by have := HO3.out.bf.n1024; have := blk_end HO3.out.bf.fin HQ.out.2.2.1; have := p2 q; omega)
            have hae : a + P ≤ n := by rw [hP]; have := blk_end HO3.out.bf.fin HQ.out.2.2.1; have := Nat.pow_le_pow_right (n := 2) (by decide) HQ.out.2.2.2; omega
            have hn1 := HO3.out.bf.n1024
            have ha8 : a % 8 = 0 := by have := mod_of_le (j := 3) hq3 HQ.out.2.1; simpa using this
            have hwe : IntKind.i64.wrap ((a : Int) + (P : Int)) = ((a + P : Nat) : Int) := wsum a P (by omega) (by omega)
            obtain ⟨E, hE⟩ : ∃ E, a + P = E := ⟨_, rfl⟩
            rw [hE] at hwe hae
            have HEP : Hid (E = a + 2 ^ o) := by show E = _; rw [← hE, hP]
            have HA8 := Lib.hid ha8
            have HEN := Lib.hid (And.intro hae hn1)
            clear hq3 hE hP
            go_wp2
            clear c0 c1 f0 f1
            generalize (w6.setCell ⟨b9, 0, none⟩ (.int .i64 (a : Int))).setCell ⟨b9, 1, none⟩ (.int .i64 (q : Int)) = w7 at HBX HO3 HK3 ⊢
            go_loopw [13] (fun i wr => ∃ t u : Nat, i = .int .i64 (t : Int) ∧ t = a + 8 * u ∧ (u = 0 ∨ t < E + 8) ∧ KO wr B k b kr n F (fun i => if a / 8 ≤ i ∧ i < a / 8 + u then x else M i) N ∧ wr.heap[b9]? = some (.cells #[.int .i64 (a : Int), .int .i64 (q : Int)] 96 (0, 0)) ∧ Keep (fun z => z = kr) w7 wr) (fun i _ => 3000 - (intOf i).toNat)
            case atStart => exact ⟨a, 0, rfl, by omega, .inl rfl, HO3.out.congr (fun i _ => by rw [if_neg (by omega)]), HBX.out, Keep.refl _ _⟩
            case round =>
              obtain ⟨t, u, rfl, ht, htu, hO7, hB7, hK7⟩ := hrel
              have HO7 := Lib.hid hO7
              have HB7 := Lib.hid hB7
              have HK7 := Lib.hid hK7
              have HTU := Lib.hid (And.intro ht htu)
              obtain ⟨b0, b1⟩ := cell2b hB7
              clear hO7 hB7 hK7
              by_cases hlt : t < E
              · have t1 : decide ((t : Int) < (E : Int)) = true := decide_eq_true (Int.ofNat_lt.mpr hlt)
                have t2 : decide (t < E) = true := decide_eq_true hlt
                obtain ⟨s8, HS8, hs9, hq1, hq2, hq4, hq5, hq6, hq7, ht2⟩ := sec_at HTU.out.1 HA8.out hlt HEN.out.1 HEN.out.2
                have HLT := Lib.hid hlt
                have hc := HO7.out.mt.cell hs9
                have hfz := HO7.out.mt.frozen s8
                obtain ⟨z0, z1, z2⟩ := cells3 HO7.out.hk
                clear ht htu hlt
                go_wp2
                go_quiet (fail)
                go_wp2
                go_roundw
                case rel => exact ⟨t + 8, u + 1, by go_num, step8 HTU.out.1, .inr (Nat.add_lt_add_right HLT.out 8), ((HO7.out.keep0 (by (repeat (first | exact Keep.refl _ _ | exact Keep.refl _ _ | refine Keep.drew ?_ | refine Keep.drewN ?_ _ | refine Keep.alloc ?_ _ | refine Keep.setNew ?_ (by omega) _)); done)).setM (i := s8) x).1.congr (fun i _ => setM_range x HS8.out i), by (rw [heap_setCell_ne (typ_ne HB7.out (HO7.out.mt.typ.choose_spec) (by decide))]; exact HB7.out), (HK7.out.trans (by (repeat (first | exact Keep.refl _ _ | exact Keep.refl _ _ | refine Keep.drew ?_ | refine Keep.drewN ?_ _ | refine Keep.alloc ?_ _ | refine Keep.setNew ?_ (by omega) _)); done)).setCell (p := ⟨kr, s8, none⟩) (fun _ => rfl) _⟩
                case measure => (clear hq1 hq2 hq6 hq7 e1 e2 hwe; simp [intOf]; omega)
              · have t1 : decide ((t : Int) < (E : Int)) = false := decide_eq_false (fun h => hlt (Int.ofNat_lt.mp h))
                have t2 : decide (t < E) = false := decide_eq_false hlt
                have HMM : Hid (∀ i, (if a / 8 ≤ i ∧ i < a / 8 + u then x else M i) = tkM M o x ⟨(a : Int), (q : Int)⟩ false i) := fun i => tkM_is HQ3.out HA8.out HTU.out.1 HTU.out.2 (Nat.le_of_not_lt hlt) HEP.out i
                clear ht htu
                have HOM := Lib.hid (HO7.out.congr (fun i _ => HMM.out i))
                go_wp2
                go_quiet (fail)
                go_wp2
                generalize hw3 : World.drewN wr _ = w3
                have HDN : Hid (Keep (fun _ => False) wr w3) := by rw [← hw3]; exact (by (repeat (first | exact Keep.refl _ _ | exact Keep.refl _ _ | refine Keep.drew ?_ | refine Keep.drewN ?_ _ | refine Keep.alloc ?_ _ | refine Keep.setNew ?_ (by omega) _)); done)
                have HO3' := Lib.hid (HOM.out.keep0 HDN.out)
                have HBX' := Lib.hid ((HDN.out.block b9 (block_lt HB7.out) id).trans HB7.out)
                clear HO3 HBX hw3 b0 b1
                have HO3 := HO3'
                have HBX := HBX'
                obtain ⟨e0, e1⟩ := cell2b HBX.out
                obtain ⟨z0, -, -⟩ := cells3 HO3.out.hk
                go_region_held3 (fun w' => w'.cell? ⟨b9, 0, none⟩ = some (.int .i64 (a : Int)) ∧ w'.cell? ⟨k, 0, none⟩ = some (.pointer (some ⟨b, 0, none⟩)))
                  (first | exact HC5.out | exact ⟨e0, z0⟩)
                  (first | (go_at_call 69; refine (tk_at (HO3.out.keep0 (by (repeat (first | exact Keep.refl _ _ | exact Keep.refl _ _ | refine Keep.drew ?_ | refine Keep.drewN ?_ _ | refine Keep.alloc ?_ _ | refine Keep.setNew ?_ (by omega) _)); done)) HQ.out.1 HQ.out.2.1 HQ.out.2.2.1 HQ.out.2.2.2).mono ?_; rintro e w5 ⟨rfl, hO5, hk5⟩; have HO5 := Lib.hid hO5; have HK5 : Hid (KB3 B b N w3 w5) := kb3_on (by (repeat (first | exact Keep.refl _ _ | exact Keep.refl _ _ | refine Keep.drew ?_ | refine Keep.drewN ?_ _ | refine Keep.alloc ?_ _ | refine Keep.setNew ?_ (by omega) _)); done) hk5; have HC5 : Hid (w5.cell? ⟨b9, 0, none⟩ = some (.int .i64 (a : Int)) ∧ w5.cell? ⟨k, 0, none⟩ = some (.pointer (some ⟨b, 0, none⟩))) := ⟨(cell2b (kb3_block HO3.out.bf.hp HK5.out HBX.out (by decide))).1, (cells3 hO5.hk).1⟩; clear hO5 hk5))
                all_goals
                  go_wp2
                  go_ret2
                  exact ⟨D, HI.out, .inr ⟨⟨(a : Int), (q : Int)⟩, false, HTK.out, rfl, by simpa using HO5.out, kt3_mid HK3.out HK7.out (kb3_on HDN.out HK5.out)⟩⟩
          · have u0 : decide (3 ≤ (q : Int)) = false := by simp; omega
            have u0' : decide (3 ≤ q) = false := by simp; omega
            have HMM : Hid (tkM M o x ⟨(a : Int), (q : Int)⟩ false = M) := by funext i; unfold tkM; rw [if_neg (by simp; omega)]
            clear hq3
            go_wp2
            generalize (w6.setCell ⟨b9, 0, none⟩ (.int .i64 (a : Int))).setCell ⟨b9, 1, none⟩ (.int .i64 (q : Int)) = w3 at HBX HO3 HK3 ⊢
            obtain ⟨e0, e1⟩ := cell2b HBX.out
            obtain ⟨z0, -, -⟩ := cells3 HO3.out.hk
            go_region_held3 (fun w' => w'.cell? ⟨b9, 0, none⟩ = some (.int .i64 (a : Int)) ∧ w'.cell? ⟨k, 0, none⟩ = some (.pointer (some ⟨b, 0, none⟩)))
              (first | exact HC5.out | exact ⟨e0, z0⟩)
              (first | (go_at_call 69; refine (tk_at (HO3.out.keep0 (by (repeat (first | exact Keep.refl _ _ | exact Keep.refl _ _ | refine Keep.drew ?_ | refine Keep.drewN ?_ _ | refine Keep.alloc ?_ _ | refine Keep.setNew ?_ (by omega) _)); done)) HQ.out.1 HQ.out.2.1 HQ.out.2.2.1 HQ.out.2.2.2).mono ?_; rintro e w5 ⟨rfl, hO5, hk5⟩; have HO5 := Lib.hid hO5; have HK5 : Hid (KB3 B b N w3 w5) := kb3_on (by (repeat (first | exact Keep.refl _ _ | exact Keep.refl _ _ | refine Keep.drew ?_ | refine Keep.drewN ?_ _ | refine Keep.alloc ?_ _ | refine Keep.setNew ?_ (by omega) _)); done) hk5; have HC5 : Hid (w5.cell? ⟨b9, 0, none⟩ = some (.int .i64 (a : Int)) ∧ w5.cell? ⟨k, 0, none⟩ = some (.pointer (some ⟨b, 0, none⟩))) := ⟨(cell2b (kb3_block HO3.out.bf.hp HK5.out HBX.out (by decide))).1, (cells3 hO5.hk).1⟩; clear hO5 hk5))
            all_goals
              go_wp2
              go_ret2
              exact ⟨D, HI.out, .inr ⟨⟨(a : Int), (q : Int)⟩, false, HTK.out, rfl, by rw [HMM.out]; simpa using HO5.out, kt3_of HK3.out HK5.out⟩⟩
        | none =>
          simp only [fb, Option.getD_none, Option.isSome_none]
          have hks : Keep (fun z => z = b9) w6 ((w6.setCell ⟨b9, 0, none⟩ (.int .i64 0)).setCell ⟨b9, 1, none⟩ (.int .i64 0)) := ((Keep.refl (fun z => z = b9) w6).setCell (p := ⟨b9, 0, none⟩) (fun _ => rfl) _).setCell (p := ⟨b9, 1, none⟩) (fun _ => rfl) _
          have HO8 := Lib.hid (HO6.out.other hks (fun z hz => by subst hz; exact ⟨_, HB6.out⟩))
          have HK8 : Hid (Keep (fun _ => False) w ((w6.setCell ⟨b9, 0, none⟩ (.int .i64 0)).setCell ⟨b9, 1, none⟩ (.int .i64 0))) := keep_fresh HK6.out hks (fun z hz => by subst hz; exact HSZ.out)
          have HB8 : Hid (((w6.setCell ⟨b9, 0, none⟩ (.int .i64 0)).setCell ⟨b9, 1, none⟩ (.int .i64 0)).heap[b9]? = some (.cells #[.int .i64 0, .int .i64 0] 96 (0, 0))) := set2 HB6.out
          have HV8 : Hid (OwnL bkE ((w6.setCell ⟨b9, 0, none⟩ (.int .i64 0)).setCell ⟨b9, 1, none⟩ (.int .i64 0)) w.heap.size 96 v (pcO M D o)) := HV6.out.keep hks (fun z hz e => by subst e; exact HVB.out hz)
          have HNB2 := Lib.hid hb2
          clear hks hb2
          go_wp2
          go_roundw
          case rel => exact ⟨2, by omega, by go_num, rfl, fun _ => HN1.out (by omega), fun _ => HNB2.out, HO8.out, HK8.out, HV8.out, HB8.out⟩
          case measure => simp [intOf]
      · have HTK : Hid (tkP M D o x = none) := by unfold Hid tkP; rw [HNB1.out, HN1.out (by omega), HN2.out (by omega)]
        go_wp2
        go_ret2
        exact ⟨D, HI.out, .inl ⟨HTK.out, rfl, HK5.out⟩⟩

end Go.Proofs.YtjffdimlbppgcaaGreat
