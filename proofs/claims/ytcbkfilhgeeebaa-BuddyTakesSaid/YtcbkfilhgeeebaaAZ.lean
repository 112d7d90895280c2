/- Buddy: BuddyTakes, the walk. -/
import Derived.Test.YtcbkfilhgeeebaaAY
set_option linter.unusedVariables false
set_option linter.unusedSimpArgs false
namespace Go.Proofs.Ytcbkfilhgeeebaa
open Go.RowKit Go.Own

theorem wrE_three {n f k : Nat} (hk : k ≤ 8) (hf : f % 2 ^ k = 0) (h : n ≤ f ∨ n < f + 2 ^ k) : wrE n f k = 3 := by
  have e : ((f : Int)) % ((2 ^ k : Nat) : Int) = 0 := by rw [← Int.natCast_emod, hf]; rfl
  unfold wrE
  rw [Int.toNat_natCast, if_neg (by omega), if_pos (by omega)]
theorem quo_facts (fr P u : Nat) (h1 : 1 ≤ P) (hfr : fr ≤ 255) (hu : fr / P = u) : ¬ ((P : Int) = 0) ∧ ¬ (P = 0) ∧ Int.tdiv (fr : Int) (P : Int) = (u : Int) ∧ (fr : Int) / (P : Int) = (u : Int) ∧ wrap64 (u : Int) = (u : Int) ∧ IntKind.i64.wrap (u : Int) = (u : Int) := by
  have h2 : u ≤ fr := by rw [← hu]; exact Nat.div_le_self _ _
  refine ⟨by omega, by omega, ?_, ?_, IntWalk.wrap64_in _ (by omega), IntWalk.i64_in _ (by omega)⟩
  · rw [← Int.ofNat_tdiv, hu]
  · rw [← Int.natCast_ediv, hu]

theorem up_base {w w1 w2 : World} (K : Keep (fun _ => False) w w1) (h : Up w1.heap.size w1 w2) : Up w.heap.size w w2 :=
  Keep.trans (Up.of K) (h.mono fun z _ hz => Nat.le_trans K.size hz)

theorem rx_all_no {w : World} {x g n f k : Nat} {F : Nat → Bool} (h : RX w x g n F) (hn : n ≤ 1024) (hk : k ≤ 8) (hf : f ≤ 5000) (ha : ¬ allB F n f (2 ^ k) true) :
    Calls Try.prog 20 #[.pointer (some ⟨x, 0, none⟩), .int .i64 (f : Int), .int .i64 (k : Int), .bool true] w fun e w' => e = .returned (.bool false) ∧ w' = w := by
  refine (rall_any true h hn hk hf).mono ?_
  rintro e w' ⟨rfl, ⟨h1, _⟩ | ⟨_, rfl⟩⟩
  · exact absurd h1 ha
  · exact ⟨rfl, rfl⟩

theorem met_typ {w : World} {x g n : Nat} {F : Nat → Bool} (h : RX w x g n F) : ∃ c, w.heap[g]? = some (.cells c 4 (0, 0)) := by
  obtain ⟨C, hg, _⟩ := h.2
  exact ⟨_, hg⟩
theorem kt_block2 {w w' : World} {B p g b e : Nat} {c : Array Value} (hp : ∃ c, w.heap[p]? = some (.cells c 63 (0, 0))) (hg : ∃ c, w.heap[g]? = some (.cells c 4 (0, 0))) (k : KT B p g w w') (hb : w.heap[b]? = some (.cells c e (0, 0))) (he : e ≠ 63 ∧ e ≠ 3 ∧ e ≠ 4) : w'.heap[b]? = some (.cells c e (0, 0)) := by
  rw [k.block b (block_lt hb) ?_]
  · exact hb
  · rintro (rfl | ⟨_, c2, h2⟩ | rfl)
    · obtain ⟨c, hc⟩ := hp
      exact typ_ne hb hc he.1 rfl
    · exact typ_ne hb h2 he.2.1 rfl
    · obtain ⟨C, hg⟩ := hg
      exact typ_ne hb hg he.2.2 rfl
theorem own_kt2 {w w' : World} {B C p g : Nat} {v : Value} {L : List Bk} (o : OwnL bkE w C 55 v L) (hp : ∃ c, w.heap[p]? = some (.cells c 63 (0, 0))) (hg : ∃ c, w.heap[g]? = some (.cells c 4 (0, 0))) (k : KT B p g w w') : OwnL bkE w' C 55 v L := by
  refine o.keep k ?_
  intro z hz hs
  obtain ⟨c, hc⟩ := own_typ o hz
  rcases hs with rfl | ⟨_, c2, h2⟩ | rfl
  · obtain ⟨c', hc'⟩ := hp
    exact typ_ne hc hc' (by decide) rfl
  · exact typ_ne hc h2 (by decide) rfl
  · obtain ⟨C, hg⟩ := hg
    exact typ_ne hc hg (by decide) rfl
theorem up_base' {w w1 w2 w3 : World} (K : Keep (fun _ => False) w w1) (h : Up w1.heap.size w2 w3) : Up w.heap.size w2 w3 :=
  h.mono fun z _ hz => Nat.le_trans K.size hz
theorem kt_up2 {w w' : World} {B C p g : Nat} (h : B ≤ p ∧ B ≤ g) (hC : C ≤ B) (k : KT B p g w w') : Up C w w' := k.mono fun z _ hz => by
  rcases hz with rfl | ⟨h1, _⟩ | rfl
  · exact Nat.le_trans hC h.1
  · exact Nat.le_trans hC h1.1
  · exact Nat.le_trans hC h.2

set_option maxRecDepth 100000 in
set_option maxHeartbeats 4000000 in
theorem takes_walk (n : Int) (la : Option Addr) (l c : Nat) (fr od : Int) (w : World) (hr : RowsAt w la l [.int .i64, .int .i64, .int .i64, .int .i64, .bool]) (hfr : (Lit.int .u8 fr).wf = true) (ho : (Lit.int .u8 od).wf = true) :
    Calls Try.prog 4 #[.agg #[.int .i64 n, .slice la l c, .int .u8 fr, .int .u8 od]] w fun e w' => e = .returned (.bool true) ∧ Below w.heap.size w w' := by
  obtain ⟨A, rfl, hA⟩ := acts5_of_rows hr
  obtain ⟨od, rfl, hod⟩ := u8_of ho
  obtain ⟨fr, rfl, hfr2⟩ := u8_of hfr
  have HOD := Lib.hid (And.intro hod hfr2)
  have HA0 := Lib.hid hA
  clear hA hr ho hod hfr hfr2
  have hbx := heap_alloc_new w (.cells #[.int .i64 n, .slice la A.length c, .int .u8 (fr : Int), .int .u8 (od : Int)] 36)
  have b0 : (w.alloc (.cells #[.int .i64 n, .slice la A.length c, .int .u8 (fr : Int), .int .u8 (od : Int)] 36)).cell? ⟨w.heap.size, 0, none⟩ = some (.int .i64 n) := by simp [cell_block hbx]
  have b1 : (w.alloc (.cells #[.int .i64 n, .slice la A.length c, .int .u8 (fr : Int), .int .u8 (od : Int)] 36)).cell? ⟨w.heap.size, 1, none⟩ = some (.slice la A.length c) := by simp [cell_block hbx]
  have b2 : (w.alloc (.cells #[.int .i64 n, .slice la A.length c, .int .u8 (fr : Int), .int .u8 (od : Int)] 36)).cell? ⟨w.heap.size, 2, none⟩ = some (.int .u8 (fr : Int)) := by simp [cell_block hbx]
  have b3 : (w.alloc (.cells #[.int .i64 n, .slice la A.length c, .int .u8 (fr : Int), .int .u8 (od : Int)] 36)).cell? ⟨w.heap.size, 3, none⟩ = some (.int .u8 (od : Int)) := by simp [cell_block hbx]
  clear hbx
  go_enter Try.func4, Try.ntmps4
  go_wp2
  go_quiet (fail)
  generalize hw0 : World.drewN _ _ = w0
  have HK0 : Hid (Keep (fun _ => False) w w0) := by rw [← hw0]; exact (by (repeat (first | exact Keep.refl _ _ | exact Keep.refl _ _ | refine Keep.drew ?_ | refine Keep.drewN ?_ _ | refine Keep.alloc ?_ _ | refine Keep.setNew ?_ (by omega) _)); done)
  clear hw0 b0 b1 b2 b3
  have H1 := Lib.hid (HA0.out.up (Up.of HK0.out))
  clear HA0
  go_wp2_with fail
  refine (small_any n _).mono ?_
  rintro e w1 ⟨rfl, rfl⟩
  rcases sm_is n with hb | ⟨m, hm, h8, hm4⟩
  · have HB := Lib.hid hb
    clear hb
    go_wp2_with fail
    refine (made_bad (sm n) HB.out _).mono ?_
    rintro e w2 ⟨rfl, hk2⟩
    have HK2 : Hid (Keep (fun _ => False) w1 w2) := Keep.trans (by (repeat (first | exact Keep.refl _ _ | exact Keep.refl _ _ | refine Keep.drew ?_ | refine Keep.drewN ?_ _ | refine Keep.alloc ?_ _ | refine Keep.setNew ?_ (by omega) _)); done) hk2
    clear hk2
    go_wp2_with fail
    refine (awake_any _).mono ?_
    rintro e w3 ⟨rfl, hk3⟩
    have HK3 : Hid (Keep (fun _ => False) w1 w3) := HK2.out.trans hk3
    clear hk3
    go_wp2_with fail
    refine (awake_any _).mono ?_
    rintro e w4 ⟨rfl, hk4⟩
    have HK4 : Hid (Keep (fun _ => False) w1 w4) := Keep.trans (by (repeat (first | exact HK3.out | exact Keep.refl _ _ | refine Keep.drew ?_ | refine Keep.drewN ?_ _ | refine Keep.alloc ?_ _ | refine Keep.setNew ?_ (by omega) _)); done) hk4
    clear hk4
    go_wp2
    go_ret
    exact ⟨rfl, (Keep.trans HK0.out HK4.out).below⟩
  · rw [hm]
    clear hm
    have HM := Lib.hid (And.intro h8 hm4)
    clear h8 hm4
    go_wp2_with fail
    refine (made_any m HM.out.1 HM.out.2 _).mono ?_
    rintro e w2 ⟨q, p, x, g, rfl, hS, hk2⟩
    have HI2 : Hid (LoopI w1 w2 q p x g m 0) := LoopI.start ⟨_, hS, TkP.start m⟩ hk2
    clear hS hk2
    go_wp2_with fail
    refine (awake_any _).mono ?_
    rintro e w3 ⟨rfl, hk3⟩
    have HI3 : Hid (LoopI w1 w3 q p x g m 0) := HI2.out.keep0 hk3
    clear hk3 HI2
    go_wp2
    go_loopw [9] (fun i wr => ∃ k : Nat, k ≤ A.length ∧ k ≤ 60 ∧ i = .int .i64 (k : Int) ∧ LoopI w1 wr q p x g m k) (fun i _ => 60 - (intOf i).toNat)
    case atStart => exact ⟨0, by omega, by omega, rfl, HI3.out⟩
    case round =>
      obtain ⟨k, hkA, hk60, rfl, hI⟩ := hrel
      have HI := Lib.hid hI
      clear hI HI3
      by_cases hlt : k < A.length ∧ k < 60
      · obtain ⟨hlt, hlt3⟩ := hlt
        obtain ⟨b, o, rfl, hc⟩ := (H1.out.up (by obtain ⟨F, T, _, _, h⟩ := HI.out; exact h)) k hlt
        obtain ⟨y, hy⟩ : ∃ y, A[k]'hlt = y := ⟨_, rfl⟩
        rw [hy] at hc
        obtain ⟨c0, c1, c2, c3, c4, hf⟩ := hc
        have HF := Lib.hid hf
        have k0 : (0 : Int) ≤ k := Int.natCast_nonneg k
        have k1 : (k : Int) < A.length := Int.ofNat_lt.mpr hlt
        clear hf hy
        go_wp2_with (go_at_call 17; refine ((HI.out.keep0 (by (repeat (first | exact Keep.refl _ _ | exact Keep.refl _ _ | refine Keep.drew ?_ | refine Keep.drewN ?_ _ | refine Keep.alloc ?_ _ | refine Keep.setNew ?_ (by omega) _)); done)).do (by omega) y.k y.f y.o y.n y.h HF.out).mono ?_; rintro e w5 ⟨rfl, hI5⟩; have HI5 := Lib.hid hI5; clear hI5)
        go_roundw
        case rel => exact ⟨k + 1, by omega, by omega, by go_num, HI5.out⟩
        case measure => simp [intOf]; omega
      · have hkk : k = A.length ∨ (k < A.length ∧ k = 60) := by omega
        clear hlt
        rcases hkk with hkk | ⟨hkl, hkk⟩
        all_goals
          subst hkk
          obtain ⟨F, T, ⟨v, hS, hT⟩, hl, hu⟩ := HI.out
          have HS := Lib.hid hS
          have HU := Lib.hid (up_base HK0.out hu)
          clear hS hT hl hu HI H1
          obtain ⟨t, ht⟩ : ∃ t, od % 9 = t := ⟨_, rfl⟩
          have ht8 : t ≤ 8 := by omega
          have e9 : (od : Int) % 9 = (t : Int) := by omega
          have hwt : IntKind.i64.wrap (t : Int) = (t : Int) := IntWalk.i64_in _ (by omega)
          obtain ⟨P, hP⟩ : ∃ P, 2 ^ t = P := ⟨_, rfl⟩
          have hP1 : 1 ≤ P ∧ P ≤ 256 := by
            rw [← hP]
            exact ⟨p2 t, by have := Nat.pow_le_pow_right (n := 2) (by decide) ht8; omega⟩
          have HP := Lib.hid hP
          have HSZ : Hid (∀ W, Calls Try.prog 14 #[.int .i64 (t : Int)] W fun e w' => e = .returned (.int .i64 (P : Int)) ∧ w' = W) := fun W => size_p t P ht8 hP W
          have hm1 := HM.out.2
          clear hP ht
          go_wp2
          clear e9 hwt
          obtain ⟨u, hu⟩ : ∃ u, fr / P = u := ⟨_, rfl⟩
          have hfrr := HOD.out.2
          have hqf := quo_facts fr P u hP1.1 hfrr hu
          have hu2 : u ≤ 255 := by rw [← hu]; exact Nat.le_trans (Nat.div_le_self _ _) hfrr
          obtain ⟨f, hf⟩ : ∃ f, u * P = f := ⟨_, rfl⟩
          have hf5 : f ≤ fr := by rw [← hf, ← hu]; exact Nat.div_mul_le_self _ _
          have hmul : IntKind.i64.wrap ((u : Int) * (P : Int)) = (f : Int) := by rw [← Int.natCast_mul, hf]; exact IntWalk.i64_in _ (by omega)
          have HFU : Hid (f % 2 ^ t = 0) := by unfold Hid; rw [HP.out, ← hf]; exact Nat.mul_mod_left _ _
          have hfw : IntKind.i64.wrap (fr : Int) = (fr : Int) := IntWalk.i64_in _ (by omega)
          clear hf hu
          obtain ⟨q1, q2, q3, q4, q5, q6⟩ := hqf
          go_region_held3 (fun w' => True)
            (first | exact trivial)
            (first | (go_at_call 14; refine (HSZ.out _).mono ?_; rintro e w5 ⟨rfl, rfl⟩))
          clear q1 q2 q3 q4 q5 q6 hfw hmul
          have HS5 := Lib.hid (HS.out.keep0 (Keep.drew (Keep.refl _ _)))
          have HU5 : Hid (Up w.heap.size w wr.drew) := Keep.trans HU.out (Up.of (Keep.drew (Keep.refl _ _)))
          generalize wr.drew = w5 at HS5 HU5 ⊢
          obtain ⟨z0, z1, -⟩ := cells3 HS5.out.2.1
          go_wp2_with (go_at_call 18; refine (blocks_any HS5.out.1.1).mono ?_; rintro e w6 ⟨v6, D6, rfl, hO6, hI6, hl6, hk6⟩; have HO6 := Lib.hid hO6; have HI6 := Lib.hid hI6; have HL6 := Lib.hid hl6; have HS6 := Lib.hid (HS5.out.keep0 hk6); have HU6 : Hid (Up w.heap.size w w6) := Keep.trans HU5.out (Up.of hk6); clear hO6 hI6 hl6 hk6 z0 z1; obtain ⟨z0, z1, -⟩ := cells3 HS6.out.2.1)
          have hP0 := HP.out
          have hsubx : ∃ r : Nat, f ≤ m → IntKind.i64.wrap ((m : Int) - (f : Int)) = (r : Int) ∧ r = m - f := ⟨m - f, fun h => ⟨(IntWalk.i64_in _ (by omega)).trans (by omega), rfl⟩⟩
          obtain ⟨r, hrx⟩ := hsubx
          have hFU := HFU.out
          have hcase : (m ≤ f) ∨ (f < m ∧ m < f + P) ∨ (f + P ≤ m ∧ ¬ blk F t f) ∨ (f + P ≤ m ∧ blk F t f) := by
            by_cases h1 : m ≤ f
            · exact .inl h1
            by_cases h2 : m < f + P
            · exact .inr (.inl ⟨by omega, h2⟩)
            by_cases h3 : blk F t f
            · exact .inr (.inr (.inr ⟨by omega, h3⟩))
            · exact .inr (.inr (.inl ⟨by omega, h3⟩))
          rcases hcase with h1 | ⟨h1, h2⟩ | ⟨h1, h2⟩ | ⟨h1, h2⟩
          · have hw3 : wrE m f t = 3 := wrE_three ht8 hFU (.inl h1)
            have HTA : Hid (∀ W, Keep (fun _ => False) w6 W → Calls Try.prog 19 #[.pointer (some ⟨p, 0, none⟩), .int .i64 (f : Int), .int .i64 (t : Int)] W fun e w' => e = .returned (.int .i64 3) ∧ Keep (fun _ => False) W w') := fun W K => by
              have h := takeAt_bad (f : Int) (t : Int) (HS6.out.keep0 K).1.1 (by rw [hw3]; decide)
              rw [hw3] at h; exact h
            have t1 : decide ((m : Int) ≤ (f : Int)) = true := by simp; omega
            have t2 : decide (m ≤ f) = true := by simp; omega
            clear hrx h1 hw3 hFU hP0
            go_wp2_with (go_at_call 19; refine (HTA.out _ (by (repeat (first | exact Keep.refl _ _ | exact Keep.refl _ _ | refine Keep.drew ?_ | refine Keep.drewN ?_ _ | refine Keep.alloc ?_ _ | refine Keep.setNew ?_ (by omega) _)); done)).mono ?_; rintro e w7 ⟨rfl, hk7⟩; have HK7 : Hid (Keep (fun _ => False) w6 w7) := Keep.trans (by (repeat (first | exact Keep.refl _ _ | exact Keep.refl _ _ | refine Keep.drew ?_ | refine Keep.drewN ?_ _ | refine Keep.alloc ?_ _ | refine Keep.setNew ?_ (by omega) _)); done) hk7; have HS7 := Lib.hid (HS6.out.keep0 HK7.out); clear hk7 z0 z1; obtain ⟨z0, z1, -⟩ := cells3 HS7.out.2.1; have zx := HS7.out.1.2.1.c0)
            go_quiet (fail)
            go_wp2
            go_ret
            exact ⟨rfl, Up.below (Keep.trans HU6.out (Up.of (by (repeat (first | exact HK7.out | exact Keep.refl _ _ | refine Keep.drew ?_ | refine Keep.drewN ?_ _ | refine Keep.alloc ?_ _ | refine Keep.setNew ?_ (by omega) _)); done)))⟩
          · have hw3 : wrE m f t = 3 := wrE_three ht8 hFU (.inr (by rw [hP0]; exact h2))
            have HTA : Hid (∀ W, Keep (fun _ => False) w6 W → Calls Try.prog 19 #[.pointer (some ⟨p, 0, none⟩), .int .i64 (f : Int), .int .i64 (t : Int)] W fun e w' => e = .returned (.int .i64 3) ∧ Keep (fun _ => False) W w') := fun W K => by
              have h := takeAt_bad (f : Int) (t : Int) (HS6.out.keep0 K).1.1 (by rw [hw3]; decide)
              rw [hw3] at h; exact h
            obtain ⟨hr1, hr2⟩ := hrx (by omega)
            have t1 : decide ((m : Int) ≤ (f : Int)) = false := by simp; omega
            have t2 : decide (m ≤ f) = false := by simp; omega
            have t3 : decide ((r : Int) < (P : Int)) = true := by simp; omega
            have t4 : decide (r < P) = true := by simp; omega
            clear hrx h1 h2 hw3 hFU hP0 hr2
            go_wp2_with (go_at_call 19; refine (HTA.out _ (by (repeat (first | exact Keep.refl _ _ | exact Keep.refl _ _ | refine Keep.drew ?_ | refine Keep.drewN ?_ _ | refine Keep.alloc ?_ _ | refine Keep.setNew ?_ (by omega) _)); done)).mono ?_; rintro e w7 ⟨rfl, hk7⟩; have HK7 : Hid (Keep (fun _ => False) w6 w7) := Keep.trans (by (repeat (first | exact Keep.refl _ _ | exact Keep.refl _ _ | refine Keep.drew ?_ | refine Keep.drewN ?_ _ | refine Keep.alloc ?_ _ | refine Keep.setNew ?_ (by omega) _)); done) hk7; have HS7 := Lib.hid (HS6.out.keep0 HK7.out); clear hk7 z0 z1; obtain ⟨z0, z1, -⟩ := cells3 HS7.out.2.1; have zx := HS7.out.1.2.1.c0)
            go_region_held3 (fun w' => w'.cell? ⟨q, 1, none⟩ = some (.pointer (some ⟨x, 0, none⟩)) ∧ w'.cell? ⟨x, 0, none⟩ = some (.slice (some ⟨g, 0, none⟩) m m))
              (first | exact ⟨z1, zx⟩)
              (first | (go_at_call 14; refine (HSZ.out _).mono ?_; rintro e w8 ⟨rfl, rfl⟩))
            all_goals
              go_wp2
              go_ret
              exact ⟨rfl, Up.below (Keep.trans HU6.out (Up.of (by (repeat (first | exact HK7.out | exact Keep.refl _ _ | refine Keep.drew ?_ | refine Keep.drewN ?_ _ | refine Keep.alloc ?_ _ | refine Keep.setNew ?_ (by omega) _)); done)))⟩
          · have hw0 : wrE m f t = 0 := wrE_zero ht8 hFU (by rw [hP0]; exact h1)
            have HTA : Hid (∀ W, Keep (fun _ => False) w6 W → Calls Try.prog 19 #[.pointer (some ⟨p, 0, none⟩), .int .i64 (f : Int), .int .i64 (t : Int)] W fun e w' => e = .returned (.int .i64 12) ∧ Keep (fun _ => False) W w') := fun W K => takeAt_busy (HS6.out.keep0 K).1.1 hw0 ht8 hFU (by rw [hP0]; exact h1) h2
            have H2 := Lib.hid h2
            obtain ⟨hr1, hr2⟩ := hrx (by omega)
            have t1 : decide ((m : Int) ≤ (f : Int)) = false := by simp; omega
            have t2 : decide (m ≤ f) = false := by simp; omega
            have t3 : decide ((r : Int) < (P : Int)) = false := by simp; omega
            have t4 : decide (r < P) = false := by simp; omega
            have hf55 : f ≤ 5000 := by omega
            clear hrx h1 h2 hw0 hFU hP0 hr2
            go_wp2_with (go_at_call 19; refine (HTA.out _ (by (repeat (first | exact Keep.refl _ _ | exact Keep.refl _ _ | refine Keep.drew ?_ | refine Keep.drewN ?_ _ | refine Keep.alloc ?_ _ | refine Keep.setNew ?_ (by omega) _)); done)).mono ?_; rintro e w7 ⟨rfl, hk7⟩; have HK7 : Hid (Keep (fun _ => False) w6 w7) := Keep.trans (by (repeat (first | exact Keep.refl _ _ | exact Keep.refl _ _ | refine Keep.drew ?_ | refine Keep.drewN ?_ _ | refine Keep.alloc ?_ _ | refine Keep.setNew ?_ (by omega) _)); done) hk7; have HS7 := Lib.hid (HS6.out.keep0 HK7.out); clear hk7 z0 z1; obtain ⟨z0, z1, -⟩ := cells3 HS7.out.2.1; have zx := HS7.out.1.2.1.c0)
            go_region_held3 (fun w' => w'.cell? ⟨q, 1, none⟩ = some (.pointer (some ⟨x, 0, none⟩)) ∧ w'.cell? ⟨x, 0, none⟩ = some (.slice (some ⟨g, 0, none⟩) m m))
              (first | exact ⟨z1, zx⟩)
              (first | (go_at_call 14; refine (HSZ.out _).mono ?_; rintro e w8 ⟨rfl, rfl⟩))
            all_goals
              have HK8 : Hid (Keep (fun _ => False) w6 w7.drew) := (by (repeat (first | exact HK7.out | exact Keep.refl _ _ | refine Keep.drew ?_ | refine Keep.drewN ?_ _ | refine Keep.alloc ?_ _ | refine Keep.setNew ?_ (by omega) _)); done)
              have HS8 := Lib.hid (HS6.out.keep0 HK8.out)
              clear z0 z1 zx HK7 HS7
              generalize w7.drew = w8 at HK8 HS8 ⊢
              obtain ⟨z0, z1, -⟩ := cells3 HS8.out.2.1
              go_wp2_with (first | (go_at_call 20; refine (rx_all_no HS8.out.1.2.1 hm1 ht8 hf55 (fun h => H2.out ((allB_blk HS8.out.1.1.fin).mp h))).mono ?_; rintro e w9 ⟨rfl, rfl⟩) | (go_at_call 18; refine (blocks_any HS8.out.1.1).mono ?_; rintro e w10 ⟨v10, D10, rfl, hO10, hI10, hl10, hk10⟩; have HO10 := Lib.hid hO10; have HI10 := Lib.hid hI10; have HK10 := Lib.hid hk10; clear hO10 hI10 hl10 hk10) | (go_at_call 21; refine (two_same HI6.out HI10.out ((HO6.out.keep HK8.out (fun _ _ => id)).keep HK10.out (fun _ _ => id)) HO10.out HL6.out).mono ?_; rintro e w11 ⟨rfl, hk11⟩; have HK11 := Lib.hid hk11; clear hk11))
              go_ret
              exact ⟨rfl, Up.below (Keep.trans HU6.out (Up.of ((HK8.out.trans HK10.out).trans (by (repeat (first | exact HK11.out | exact Keep.refl _ _ | refine Keep.drew ?_ | refine Keep.drewN ?_ _ | refine Keep.alloc ?_ _ | refine Keep.setNew ?_ (by omega) _)); done))))⟩
          · have hfm : f + 2 ^ t ≤ m := by rw [hP0]; exact h1
            have hw0 : wrE m f t = 0 := wrE_zero ht8 hFU hfm
            have HTA : Hid (∀ W, Keep (fun _ => False) w6 W → Calls Try.prog 19 #[.pointer (some ⟨p, 0, none⟩), .int .i64 (f : Int), .int .i64 (t : Int)] W fun e w' => e = .returned (.int .i64 0) ∧ BF w' w1.heap.size p m (subB F t f) (G3 w1.heap.size w') ∧ RX w' x g m F ∧ KT w1.heap.size p g W w') := fun W K => by
              have h6 := (HS6.out.keep0 K).1
              refine (takeAt_ok h6.2.2.2.2.2 h6.1 (fun z hz => hz.1.2) hw0 ht8 hFU hfm h2).mono ?_
              rintro e w' ⟨rfl, ht⟩
              exact ⟨rfl, h6.took ht⟩
            have HFF : Hid (∀ i, f ≤ i → i < f + 2 ^ t → subB F t f i = false) := fun i h1 h2 => by rw [← Bool.not_eq_true, subB_iff]; exact fun h => h.2 ⟨h1, h2⟩
            have HGV : Hid (∀ W B, B ≤ W.heap.size → BF W B p m (subB F t f) (G3 B W) → Calls Try.prog 22 #[.pointer (some ⟨p, 0, none⟩), .int .i64 (f : Int), .int .i64 (t : Int)] W fun e w' => e = .returned (.int .i64 0) ∧ BF w' B p m F (G3 B w') ∧ Keep (fun z => z = p ∨ G3 B W z) W w') := fun W B hB h => by
              refine (give_ok hB h (fun z hz => hz.1.2) hw0 ht8 hFU hfm HFF.out).mono ?_
              rintro e w' ⟨rfl, ht⟩
              have h3 := ht.1.typ
              rw [add_sub h2] at h3
              exact ⟨rfl, h3, ht.2⟩
            have HAL : Hid (allB F m f (2 ^ t) true) := (allB_blk HS6.out.1.1.fin).mpr h2
            have HFH : Hid (f < m) := by have := p2 t; show f < m; omega
            have HF0 : Hid (subB F t f f = false) := HFF.out f (Nat.le_refl _) (by have := p2 t; omega)
            have H2 := Lib.hid h2
            obtain ⟨hr1, hr2⟩ := hrx (by omega)
            have t1 : decide ((m : Int) ≤ (f : Int)) = false := by simp; omega
            have t2 : decide (m ≤ f) = false := by simp; omega
            have t3 : decide ((r : Int) < (P : Int)) = false := by simp; omega
            have t4 : decide (r < P) = false := by simp; omega
            have hf55 : f ≤ 5000 := by omega
            clear hrx h1 h2 hw0 hFU hP0 hr2 hfm
            go_wp2_with (go_at_call 19; refine (HTA.out _ (by (repeat (first | exact Keep.refl _ _ | exact Keep.refl _ _ | refine Keep.drew ?_ | refine Keep.drewN ?_ _ | refine Keep.alloc ?_ _ | refine Keep.setNew ?_ (by omega) _)); done)).mono ?_; rintro e w7 ⟨rfl, hbf, hrxx, hkt⟩; have HK7 : Hid (KT w1.heap.size p g w6 w7) := kt_on (by (repeat (first | exact Keep.refl _ _ | exact Keep.refl _ _ | refine Keep.drew ?_ | refine Keep.drewN ?_ _ | refine Keep.alloc ?_ _ | refine Keep.setNew ?_ (by omega) _)); done) hkt; have HBF := Lib.hid hbf; have HRX := Lib.hid hrxx; have HQ7 := Lib.hid (kt_block HS6.out.1 HK7.out HS6.out.2.1 (by decide)); clear hkt hbf hrxx z0 z1; obtain ⟨z0, z1, -⟩ := cells3 HQ7.out; have zx := HRX.out.c0)
            go_region_held3 (fun w' => w'.cell? ⟨q, 1, none⟩ = some (.pointer (some ⟨x, 0, none⟩)) ∧ w'.cell? ⟨x, 0, none⟩ = some (.slice (some ⟨g, 0, none⟩) m m))
              (first | exact ⟨z1, zx⟩)
              (first | (go_at_call 14; refine (HSZ.out _).mono ?_; rintro e w8 ⟨rfl, rfl⟩))
            all_goals
              have HBF8 := Lib.hid ((BF.keep0 HBF.out (Keep.drew (Keep.refl (fun _ => False) w7))).typ)
              have HRX8 := Lib.hid (HRX.out.keep (S := fun _ => False) (Keep.drew (Keep.refl _ w7)) id id)
              have HQ8 : Hid (w7.drew.heap[q]? = some (.cells #[.pointer (some ⟨p, 0, none⟩), .pointer (some ⟨x, 0, none⟩), v] 46 (0, 0))) := HQ7.out
              have HO8 : Hid (OwnL bkE w7.drew w5.heap.size 55 v6 D6) := (own_kt2 HO6.out HS6.out.1.1.hp (met_typ HS6.out.1.2.1) HK7.out).keep (S := fun _ => False) (Keep.drew (Keep.refl _ w7)) (fun _ _ => id)
              have HB8 : Hid (w1.heap.size ≤ w7.drew.heap.size) := Nat.le_trans HS6.out.base HK7.out.size
              have HU8 : Hid (Up w.heap.size w w7.drew) := Keep.trans HU6.out ((up_base' HK0.out (kt_up HS6.out.1 HK7.out)).trans (Up.of (Keep.drew (Keep.refl _ w7))))
              have HBP := Lib.hid (And.intro HS6.out.1.2.2.1 HS6.out.1.2.2.2.2.1)
              clear z0 z1 zx HQ7 HBF HRX HO6 HTA
              generalize w7.drew = w8 at HBF8 HRX8 HQ8 HO8 HB8 HU8 ⊢
              obtain ⟨z0, z1, -⟩ := cells3 HQ8.out
              have HHAS : Hid (∀ W, Keep (fun _ => False) w8 W → Calls Try.prog 15 #[.pointer (some ⟨p, 0, none⟩), .int .i64 (f : Int)] W fun e w' => e = .returned (.bool false) ∧ Keep (fun _ => False) W w') := fun W K => by
                obtain ⟨S, h1, h2, _⟩ := BF.keep0 HBF8.out K
                have h := has_in h1 h2 HFH.out
                rw [HF0.out] at h; exact h
              go_wp2_with (first | (go_at_call 20; refine (rx_all_yes HRX8.out hm1 ht8 hf55 HAL.out).mono ?_; rintro e w9 ⟨rfl, rfl⟩)
                                   | (go_at_call 15; refine (HHAS.out _ (by (repeat (first | exact Keep.refl _ _ | exact Keep.refl _ _ | refine Keep.drew ?_ | refine Keep.drewN ?_ _ | refine Keep.alloc ?_ _ | refine Keep.setNew ?_ (by omega) _)); done)).mono ?_; rintro e w10 ⟨rfl, hk10⟩; have HK10 := Lib.hid hk10; have HQ10 := Lib.hid ((HK10.out.block q (block_lt HQ8.out) id).trans HQ8.out); have HBF10 := Lib.hid ((BF.keep0 HBF8.out HK10.out).typ); have HRX10 := Lib.hid (HRX8.out.keep HK10.out id id); have HO10 := Lib.hid (HO8.out.keep HK10.out (fun _ _ => id)); have HB10 := Lib.hid (Nat.le_trans HB8.out HK10.out.size); clear hk10 z0 z1; obtain ⟨z0, z1, -⟩ := cells3 HQ10.out)
                                   | (go_at_call 22; refine (HGV.out _ w1.heap.size HB10.out HBF10.out).mono ?_; rintro e w11 ⟨rfl, hbf11, hk11⟩; have HBF11 := Lib.hid hbf11; have HKT11 : Hid (KT w1.heap.size p g w10 w11) := Lib.hid (hk11.mono fun z _ h => h.imp id Or.inl); have HQ11 := Lib.hid (kt_block2 HBF10.out.hp (met_typ HRX10.out) HKT11.out HQ10.out (by decide)); have HO11 := Lib.hid (own_kt2 HO10.out HBF10.out.hp (met_typ HRX10.out) HKT11.out); clear hk11 hbf11 z0 z1; obtain ⟨z0, z1, -⟩ := cells3 HQ11.out)
                                   | (go_at_call 18; refine (blocks_any HBF11.out).mono ?_; rintro e w12 ⟨v12, D12, rfl, hO12, hI12, hl12, hk12⟩; have HO12 := Lib.hid hO12; have HI12 := Lib.hid hI12; have HK12 := Lib.hid hk12; clear hO12 hI12 hl12 hk12)
                                   | (go_at_call 21; refine (two_same HI6.out HI12.out (HO11.out.keep HK12.out (fun _ _ => id)) HO12.out HL6.out).mono ?_; rintro e w13 ⟨rfl, hk13⟩; have HK13 := Lib.hid hk13; clear hk13))
              go_ret
              exact ⟨rfl, Up.below (Keep.trans HU8.out ((Up.of HK10.out).trans ((kt_up2 HBP.out (Nat.le_trans HK0.out.size (Nat.le_refl _)) HKT11.out).trans (Up.of (HK12.out.trans (by (repeat (first | exact HK13.out | exact Keep.refl _ _ | refine Keep.drew ?_ | refine Keep.drewN ?_ _ | refine Keep.alloc ?_ _ | refine Keep.setNew ?_ (by omega) _)); done))))))⟩

end Go.Proofs.Ytcbkfilhgeeebaa
