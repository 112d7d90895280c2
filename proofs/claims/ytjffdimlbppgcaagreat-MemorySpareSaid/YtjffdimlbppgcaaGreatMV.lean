/- Memory: MemoryApart, the walk. -/
import Derived.Test.YtjffdimlbppgcaaGreatMU
set_option linter.unusedVariables false
set_option linter.unusedSimpArgs false
namespace Go.Proofs.YtjffdimlbppgcaaGreat
open Go.RowKit Go.Own

/-- Block's answer: an error and nothing is done, or a block of what was free. -/
theorem blk_apart {A : Ad} {P P1 : PS} {o x is : Int} {E : Value} (h : BlkR A P o x is E P1) (k : Lk A.n P) :
    (∃ er : Int, (er == 0) = false ∧ E = .tuple #[.int .i64 0, .int .i64 er] ∧ P1 = P) ∨
    ∃ (a q : Nat) (s : Int), o = (q : Int) ∧ q ≤ 8 ∧ a + 2 ^ q ≤ A.n ∧ E = .tuple #[.int .i64 (a : Int), .int .i64 0] ∧ (∀ i, a ≤ i → i < a + 2 ^ q → gi P.L i = 0) ∧ P1.L = Fr.fillN P.L a s (2 ^ q) ∧ P1.W = zerW P.W a (2 ^ q) := by
  rcases h with ⟨_, rfl, rfl⟩ | ⟨_, _, rfl, rfl⟩ | ⟨hb, _, D, hD, ⟨_, rfl, rfl⟩ | ⟨y, own, ht, rfl, rfl⟩⟩
  · exact .inl ⟨2, rfl, rfl, rfl⟩
  · exact .inl ⟨8, rfl, rfl, rfl⟩
  · exact .inl ⟨8, rfl, rfl, rfl⟩
  · unfold badB at hb
    obtain ⟨q, rfl⟩ := Int.eq_ofNat_of_zero_le (show 0 ≤ o by omega)
    obtain ⟨⟨a, kk, rfl, _, _, hbk, hend⟩, hok⟩ := tkP_fine hD k.fin ht
    have hle : 2 ^ q ≤ 2 ^ kk := Nat.pow_le_pow_right (by decide) (by simpa using hok)
    refine .inr ⟨a, q, is.toNat, rfl, by omega, by omega, rfl, fun i h1 h2 => (k.fr i (by omega)).mp (hbk i h1 (by omega)), ?_, ?_⟩
    · simp [gvn]
    · simp [gvn]
theorem etU : ET Tryz.prog 43 35 (.int .u64 0) 1 8 := ⟨Tryz.underlying43, by kernel_rfl, rfl, by decide⟩
/-- The cells of the words. -/
def wcs (W : Nat → Nat) (n : Nat) : List Value := (List.range n).map fun i => .int .u64 (W i : Nat)
theorem wcs_len (W : Nat → Nat) (n : Nat) : (wcs W n).length = n := by simp [wcs]
theorem wcs_at (W : Nat → Nat) (n i : Nat) (h : i < n) : (wcs W n)[i]? = some (.int .u64 (W i : Nat)) := by simp [wcs, h]
theorem wcs_one (W : Nat → Nat) (n : Nat) : ∀ u ∈ wcs W n, u.oneCell' = true := by
  intro u hu
  obtain ⟨i, _, rfl⟩ := List.mem_map.1 hu
  rfl
theorem wcs_reads {w : World} {x g n : Nat} {W : Nat → Nat} (h : RW w x g n W) : Reads w (.slice (some ⟨g, 0, none⟩) (8 * n) (8 * n)) (8 * n) 1 (wcs W (8 * n)) := by
  refine ⟨by simp [wcs_len], .inr ⟨_, _, rfl, fun j u hu => ?_⟩⟩
  have hj : j < 8 * n := by
    have := (List.getElem?_eq_some_iff.mp hu).1
    rwa [wcs_len] at this
  rw [wcs_at _ _ _ hj] at hu
  injection hu with hu
  subst hu
  have hc := h.mg.cell hj
  have e : (⟨g, 0, none⟩ : Addr).add j = ⟨g, j, none⟩ := by
    rcases Nat.eq_zero_or_pos j with rfl | h0
    · rfl
    · simp [Addr.add]; omega
  rw [e]
  exact hc
theorem own_words {w : World} {B n : Nat} {v : Value} {W : Nat → Nat} (h : w.ownsRow B 35 1 v n (wcs W n)) (hn : 0 < n) : ∃ g cap, v = .slice (some ⟨g, 0, none⟩) n cap ∧ (∃ cc, w.heap[g]? = some (.cells cc 35 (0, 0))) ∧ ∀ i, i < n → w.cell? ⟨g, i, none⟩ = some (.int .u64 (W i : Nat)) := by
  rcases h.2 with ⟨_, h0⟩ | ⟨g, cap, cur, rfl, hB, hg, hc, _, hs, ht⟩
  · omega
  · refine ⟨g, cap, rfl, ⟨_, hg⟩, fun i hi => ?_⟩
    have e := wcs_at W n i hi
    rw [← ht, List.getElem?_take] at e
    rw [if_pos (by omega)] at e
    rw [cell_block hg]
    simpa using e

theorem pc_not {w : World} {A : Ad} {N : Nat → Prop} {P : PS} {b e : Nat} {c : Array Value} (h : Mo w A N P) (hb : w.heap[b]? = some (.cells c e (0, 0))) (he : e ≠ 118 ∧ e ≠ 5 ∧ e ≠ 104 ∧ e ≠ 3) : ¬ PC A N w b := by
  obtain ⟨c1, t1⟩ := h.ko.bf.hp
  obtain ⟨c2, t2⟩ := h.ra.mb.typ
  have t3 := h.rf.hp
  obtain ⟨c4, t4⟩ := h.ko.mt.typ
  have t5 : w.heap[A.q]? = some (.cells _ 3 (0, 0)) := h.rf.hq
  obtain ⟨e1, e2, e3, e4⟩ := he
  rintro (rfl | rfl | rfl | rfl | rfl | ⟨_, c8, h8⟩)
  · exact typ_ne hb t1 e1 rfl
  · exact typ_ne hb t2 e2 rfl
  · exact typ_ne hb t3 e3 rfl
  · exact typ_ne hb t4 e4 rfl
  · exact typ_ne hb t5 e4 rfl
  · exact typ_ne hb h8 e4 rfl

/-- What the frame j is, and its words, are as they were. -/
def Out (P P1 : PS) (j : Nat) : Prop := gi P1.L j = gi P.L j ∧ ∀ i, 8 * j ≤ i → i < 8 * j + 8 → P1.W i = P.W i
theorem out_far {P P1 : PS} {a p j n : Nat} {s : Int} (ln : P.L.length = n) (ha : a + p ≤ n) (hL : P1.L = Fr.fillN P.L a s p) (hW : P1.W = zerW P.W a p) (h : j < a ∨ a + p ≤ j) : Out P P1 j := by
  refine ⟨?_, fun i h1 h2 => ?_⟩
  · rw [hL, Fr.gi_fillN _ _ _ _ _ (by omega), if_neg (by omega)]
  · rw [hW]; unfold zerW; rw [if_neg (by omega)]

set_option maxRecDepth 100000 in
set_option maxHeartbeats 4000000 in
theorem apart_walk (la : Option Addr) (l c : Nat) (K f o x is n : Int) (w : World) (hr : RowsAt w la l [.int .i64, .int .i64, .int .i64, .int .i64, .int .i64, .int .i64]) :
    Calls Tryz.prog 4 #[.slice la l c, .agg #[.int .i64 K, .int .i64 f, .int .i64 o, .int .i64 x, .int .i64 is, .int .i64 n]] w fun e w' => e = .returned (.bool true) ∧ Below w.heap.size w w' := by
  obtain ⟨L, rfl, hA⟩ := acts6_of_rows hr
  have H1 := Lib.hid hA
  clear hA hr
  have HBX := Lib.hid (heap_alloc_new w (.cells #[.int .i64 K, .int .i64 f, .int .i64 o, .int .i64 x, .int .i64 is, .int .i64 n] 42))
  have HK1 : Hid (Keep (fun _ => False) w (w.alloc (.cells #[.int .i64 K, .int .i64 f, .int .i64 o, .int .i64 x, .int .i64 is, .int .i64 n] 42))) := (Keep.refl _ _).alloc _
  have HA1 := Lib.hid (H1.out.up (Up.of HK1.out))
  have HMN : Hid (∀ W, Acts6 W la L → Calls Tryz.prog 8 #[.int .i64 64, .int .i64 0, .slice la L.length c] W fun e w' => ∃ A : Ad, e = .returned (.tuple #[.pointer (some ⟨A.m, 0, none⟩), .pointer (some ⟨A.X, 0, none⟩), .bool true]) ∧ A.n = 64 ∧ LoopI W w' A) := fun W hA => made_any 64 64 0 (by decide) (by decide) (by decide) (by decide) la L c W hA
  go_enter Tryz.func4, Tryz.ntmps4
  go_wp2_with fail
  generalize w.alloc (.cells #[.int .i64 K, .int .i64 f, .int .i64 o, .int .i64 x, .int .i64 is, .int .i64 n] 42) = w1 at HBX HK1 HA1 ⊢
  refine (HMN.out _ HA1.out).mono ?_
  rintro e w2 ⟨A, rfl, hn, hI2⟩
  have HI2 := Lib.hid hI2
  have HAN := Lib.hid hn
  clear hn hI2
  go_wp2_with fail
  refine (awake_k _).mono ?_
  rintro e w3 ⟨rfl, hk3⟩
  have HI3 : Hid (LoopI w1 w3 A) := HI2.out.keep0 (Keep.trans (by (repeat (first | exact Keep.refl _ _ | exact Keep.refl _ _ | refine Keep.drew ?_ | refine Keep.drewN ?_ _ | refine Keep.alloc ?_ _ | refine Keep.setNew ?_ (by omega) _)); done) hk3)
  clear hk3 HI2
  obtain ⟨hB, ⟨P, ⟨N, iv, hb⟩, hl, _⟩, hu⟩ := HI3.out
  obtain ⟨g2, cap2, rfl, hcc, -⟩ := hb.mx.form
  have HB3 := Lib.hid hb
  have HLK := Lib.hid hl
  have HU3 := Lib.hid hu
  have HBB : Hid (A.B = w1.heap.size) := hB
  have HBX3 : Hid (w3.heap[w.heap.size]? = some (.cells #[.int .i64 K, .int .i64 f, .int .i64 o, .int .i64 x, .int .i64 is, .int .i64 n] 42 (0, 0))) := (hu.block _ (block_lt HBX.out) (by have := block_lt HBX.out; omega)).trans HBX.out
  have HD3 := Lib.hid (dc_of hb.mx)
  clear hB hb hl hu hcc HI3
  have HKE : Hid (Keep (fun _ => False) w3 (w3.alloc (.cells #[] 35))) := (Keep.refl _ _).alloc _
  have HD4 := Lib.hid (dc_keep HD3.out HKE.out)
  have HOE : Hid ((w3.alloc (.cells #[] 35)).ownsRow w3.heap.size 35 1 (.slice (some ⟨w3.heap.size, 0, none⟩) 0 0) 0 []) := own_empty _ (Nat.le_refl _)
  have HRD : Hid (Reads (w3.alloc (.cells #[] 35)) (.slice (some ⟨A.wg, 0, none⟩) (8 * A.n) (8 * A.n)) (8 * A.n) 1 (wcs P.W (8 * A.n))) := wcs_reads (HB3.out.mx.keep0 HKE.out).rw
  have HSZ : Hid (w3.heap.size ≤ (w3.alloc (.cells #[] 35)).heap.size) := HKE.out.size
  have HN : Hid (A.n ≤ 1024) := HB3.out.mo.ra.n8.2
  obtain ⟨N8, hN8⟩ : ∃ N8, 8 * A.n = N8 := ⟨_, rfl⟩
  have HN8 := Lib.hid hN8
  obtain ⟨x0, x1, x2, x3, x4⟩ := HD4.out
  rw [hN8] at x4 HRD
  clear hN8
  go_wp2_with (at_builtin; go_loud (refine wpl_app etU rfl (.tmp 35) (.tmp 42) rfl w3.heap.size _ 0 [] rfl HOE.out _ N8 (wcs P.W N8) rfl HRD.out (wcs_one _ _) (by have := HN.out; have := HN8.out; unfold maxLen; omega) (by have := HN.out; have := HN8.out; omega) HSZ.out ?_; intro v4 w4 hown4 hgrow4; obtain ⟨gw, capw, rfl, hgw, hw⟩ := own_words ((by simpa using hown4) : w4.ownsRow w3.heap.size 35 1 v4 N8 (wcs P.W N8)) (by have := HN8.out; have := HB3.out.mo.ra.n8.1; omega); have hk4 : Keep (fun _ => False) w3 w4 := HKE.out.grown hgrow4 (fun k hk hlt => by (have hk2 : some w3.heap.size = some k := hk); injection hk2 with hk2; exact absurd hlt (by rw [← hk2]; exact Nat.lt_irrefl _)); have hbx4 := (hk4.block _ (block_lt HBX3.out) id).trans HBX3.out; have HC4 : Hid (w4.cell? ⟨w.heap.size, 2, none⟩ = some (.int .i64 o) ∧ w4.cell? ⟨w.heap.size, 3, none⟩ = some (.int .i64 x) ∧ w4.cell? ⟨w.heap.size, 4, none⟩ = some (.int .i64 is)) := ⟨by simp [cell_block hbx4], by simp [cell_block hbx4], by simp [cell_block hbx4]⟩; have HK4 := Lib.hid hk4; have HW4 := Lib.hid hw; have HBX4 := Lib.hid hbx4; have HGW := Lib.hid hgw; obtain ⟨c2, c3, c4⟩ := HC4.out; clear hown4 hgrow4 hk4 hw hgw hbx4 x0 x1 x2 x3 x4))
  have HB4 := Lib.hid (HB3.out.keep0 HK4.out)
  refine (block_any o x is HB4.out.mo HLK.out).mono ?_
  rintro e w5 ⟨E, P1, rfl, hR, hm5, hk5⟩
  obtain ⟨hb5, hkm⟩ := HB4.out.prog hm5 hk5
  have HB5 := Lib.hid hb5
  have HU5 : Hid (Up w1.heap.size w1 w5) := Keep.trans (Keep.trans HU3.out (Up.of HK4.out)) (HBB.out ▸ km_up hkm)
  have HC5 : Hid (w5.cell? ⟨w.heap.size, 2, none⟩ = some (.int .i64 o)) := by
    have := km_block hkm HBX4.out (by decide)
    simp [Hid, cell_block this]
  have HW5 : Hid (∀ i, i < N8 → w5.cell? ⟨gw, i, none⟩ = some (.int .u64 (P.W i : Nat))) := fun i hi => by
    obtain ⟨cc, hg⟩ := HGW.out
    exact (hk5.cell (block_lt hg) (pc_not HB4.out.mo hg (by decide))).trans (HW4.out i hi)
  have HD5 := Lib.hid (dc_of hb5.mx)
  have hap := blk_apart hR HLK.out
  clear hR hm5 hk5 hb5 hkm HGW HC4 HBX4 HW4 c2 c3 c4 HOE HRD HSZ HKE HD4 HD3
  have HCC : Hid (∀ j, j < A.n → w5.cell? ⟨g2, j, none⟩ = some (.int .i64 (gi P.L j))) := by
    obtain ⟨g3, cap3, e3, h3, -⟩ := HB5.out.mx.form
    simp at e3
    obtain ⟨rfl, rfl⟩ := e3
    exact h3
  have HLP : Hid (P.L.length = A.n) := HB5.out.mx.ln
  rcases hap with ⟨er, he, rfl, hPP⟩ | ⟨a, q, s, rfl, hq, hend, rfl, hz, hL, hW⟩
  · have HO : Hid (∀ j, Out P P1 j) := by rw [hPP]; exact fun j => ⟨rfl, fun _ _ _ => rfl⟩
    clear hPP
    go_wp2
    go_loopw [11] (fun i wr => ∃ j : Nat, j ≤ A.n ∧ i = .int .i64 (j : Int) ∧ Keep (fun _ => False) w5 wr) (fun i _ => A.n - (intOf i).toNat)
    case atStart => exact ⟨0, Nat.zero_le _, rfl, Keep.refl _ _⟩
    case round =>
      obtain ⟨j, hj, rfl, hk⟩ := hrel
      have HK := Lib.hid hk
      have HDJ := Lib.hid (dc_keep HD5.out hk)
      obtain ⟨x0, x1, x2, x3, x4⟩ := HDJ.out
      clear hk
      by_cases hlt : j < A.n
      · have i1 : (j : Int) < A.n := by omega
        have e8 : IntKind.i64.wrap ((j : Int) + 1) = (j : Int) + 1 := IntWalk.i64_in _ (by have := HN.out; omega)
        have HJ := Lib.hid hlt
        clear hlt
        have HOJ := Lib.hid (HO.out j)
        have HIS : Hid (Fr.isF P1.L (j : Int) = gi P.L j) := (isF_in (by rw [HB5.out.mo.ln]; exact HJ.out)).trans HOJ.out.1
        have HG : Hid (wr.cell? ⟨g2, j, none⟩ = some (.int .i64 (gi P.L j))) := (HK.out.cell (block_lt_cell (HCC.out j HJ.out)) id).trans (HCC.out j HJ.out)
        obtain ⟨s9, hs9⟩ : ∃ s9, gi P.L j = s9 := ⟨_, rfl⟩
        rw [hs9] at HIS HG
        clear hs9
        go_wp2
        go_region_held3 (fun w' => DC A.X A.K A.W A.x A.wg g2 A.n cap2 w' ∧ w'.cell? ⟨g2, j, none⟩ = some (.int .i64 s9))
          (first | exact HC6.out | exact ⟨HDJ.out, HG.out⟩)
          (first | (go_at_call 12; refine (mis_any (j : Int) (HB5.out.mo.keep0 (Keep.trans HK.out (by (repeat (first | exact Keep.refl _ _ | exact Keep.refl _ _ | refine Keep.drew ?_ | refine Keep.drewN ?_ _ | refine Keep.alloc ?_ _ | refine Keep.setNew ?_ (by omega) _)); done)))).mono ?_; rw [HIS.out]; rintro e w6 ⟨rfl, hk6⟩; have HK6 : Hid (Keep (fun _ => False) w5 w6) := Keep.trans (Keep.trans HK.out (by (repeat (first | exact Keep.refl _ _ | exact Keep.refl _ _ | refine Keep.drew ?_ | refine Keep.drewN ?_ _ | refine Keep.alloc ?_ _ | refine Keep.setNew ?_ (by omega) _)); done)) hk6; have HC6 : Hid (DC A.X A.K A.W A.x A.wg g2 A.n cap2 w6 ∧ w6.cell? ⟨g2, j, none⟩ = some (.int .i64 s9)) := ⟨dc_keep HD5.out HK6.out, (HK6.out.cell (block_lt_cell (HCC.out j HJ.out)) id).trans ((HK.out.cell (block_lt_cell (HCC.out j HJ.out)) id).symm.trans HG.out)⟩; clear hk6))
        all_goals
          clear x0 x1 x2 x3 x4
          go_wp2
          go_loopw [12] (fun i wr => ∃ k : Nat, k ≤ 8 ∧ i = .int .i64 (k : Int) ∧ Keep (fun _ => False) w5 wr) (fun i _ => 8 - (intOf i).toNat)
          case atStart => exact ⟨0, by decide, rfl, by (repeat (first | exact HK6.out | exact Keep.refl _ _ | refine Keep.drew ?_ | refine Keep.drewN ?_ _ | refine Keep.alloc ?_ _ | refine Keep.setNew ?_ (by omega) _)); done⟩
          case round =>
            obtain ⟨k, hk8, rfl, hk2⟩ := hrel
            have HK2 := Lib.hid hk2
            clear hk2
            by_cases hlt : k < 8
            · have e9 : IntKind.i64.wrap ((k : Int) + 1) = (k : Int) + 1 := IntWalk.i64_in _ (by omega)
              obtain ⟨z, i, hz, hi, hin, hin2, ⟨u, u8, f1, f2, f3⟩, ⟨v, f4, f5⟩⟩ := ad_facts j k A.n HJ.out hlt HN.out
              have HE : Hid (P1.W i = P.W i) := HOJ.out.2 i (by omega) (by omega)
              have HLD : Hid (∀ W, Keep (fun _ => False) w5 W → Calls Tryz.prog 14 #[.pointer (some ⟨A.r, 0, none⟩), .int .i64 (z : Int)] W fun e w' => e = .returned (.tuple #[.int .u64 (P.W i : Nat), .int .i64 0]) ∧ w' = W) := fun W k => by
                rw [← hz, ← HE.out]; exact load_ok (HB5.out.mo.keep0 k).ra hin
              have hwc : wr.cell? ⟨gw, i, none⟩ = some (.int .u64 (P.W i : Nat)) := (HK2.out.cell (block_lt_cell (HW5.out i (by have := HN8.out; omega))) id).trans (HW5.out i (by have := HN8.out; omega))
              rw [HN8.out] at hin2
              have HOF : Hid ((0 : Int) ≤ i) := by unfold Hid; omega
              clear hz hi hin HE
              go_wp2_with (first | (go_at_call 13; refine (mram_any (HB5.out.mo.keep0 (Keep.trans HK2.out (by (repeat (first | exact Keep.refl _ _ | exact Keep.refl _ _ | refine Keep.drew ?_ | refine Keep.drewN ?_ _ | refine Keep.alloc ?_ _ | refine Keep.setNew ?_ (by omega) _)); done)))).mono ?_; rintro e w8 ⟨rfl, rfl⟩) | (go_at_call 14; refine (HLD.out _ (Keep.trans HK2.out (by (repeat (first | exact Keep.refl _ _ | exact Keep.refl _ _ | refine Keep.drew ?_ | refine Keep.drewN ?_ _ | refine Keep.alloc ?_ _ | refine Keep.setNew ?_ (by omega) _)); done))).mono ?_; rintro e w9 ⟨rfl, rfl⟩))
              go_roundw
              case rel => exact ⟨k + 1, by omega, by go_num, HK2.out⟩
              case measure => simp [intOf]; omega
            · obtain rfl : k = 8 := by omega
              clear hlt
              go_wp2
              go_roundw
              case rel => exact ⟨j + 1, HJ.out, by go_num, HK2.out⟩
              case measure => simp [intOf]; omega
      · obtain rfl : j = A.n := by omega
        clear hlt
        go_wp2
        go_ret
        exact ⟨rfl, Up.below (up_base HK1.out (Keep.trans HU5.out (Up.of HK.out)))⟩
  · obtain ⟨p, hp⟩ : ∃ p, 2 ^ q = p := ⟨_, rfl⟩
    rw [hp] at hend hz hL hW
    have HSP : Hid (∀ W, Calls Tryz.prog 16 #[.int .i64 (q : Int)] W fun e w' => e = .returned (.int .i64 (p : Int)) ∧ w' = W) := fun W => size_p q p hq hp W
    have HZ := Lib.hid hz
    have HEND := Lib.hid hend
    have HFAR : Hid (∀ j, j < a ∨ a + p ≤ j → Out P P1 j) := fun j h => out_far HLP.out hend hL hW h
    clear hq hp hz hend hL hW
    go_wp2
    go_loopw [11] (fun i wr => ∃ j : Nat, j ≤ A.n ∧ i = .int .i64 (j : Int) ∧ Keep (fun _ => False) w5 wr) (fun i _ => A.n - (intOf i).toNat)
    case atStart => exact ⟨0, Nat.zero_le _, rfl, Keep.refl _ _⟩
    case round =>
      obtain ⟨j, hj, rfl, hk⟩ := hrel
      have HK := Lib.hid hk
      have HDJ := Lib.hid (dc_keep HD5.out hk)
      obtain ⟨x0, x1, x2, x3, x4⟩ := HDJ.out
      clear hk
      by_cases hlt : j < A.n
      · have i1 : (j : Int) < A.n := by omega
        have e8 : IntKind.i64.wrap ((j : Int) + 1) = (j : Int) + 1 := IntWalk.i64_in _ (by have := HN.out; omega)
        have HJ := Lib.hid hlt
        clear hlt
        have c2 : wr.cell? ⟨w.heap.size, 2, none⟩ = some (.int .i64 (q : Int)) := (HK.out.cell (block_lt_cell HC5.out) id).trans HC5.out
        rcases (show j < a ∨ a + p ≤ j ∨ (a ≤ j ∧ j < a + p) by omega) with h | h | h
        · have t0 : decide ((a : Int) ≤ (j : Int)) = false := by simp; omega
          have t1 : decide (a ≤ j) = false := by simp; omega
          have HOJ := Lib.hid (HFAR.out j (.inl h))
          clear h
          have HIS : Hid (Fr.isF P1.L (j : Int) = gi P.L j) := (isF_in (by rw [HB5.out.mo.ln]; exact HJ.out)).trans HOJ.out.1
          have HG : Hid (wr.cell? ⟨g2, j, none⟩ = some (.int .i64 (gi P.L j))) := (HK.out.cell (block_lt_cell (HCC.out j HJ.out)) id).trans (HCC.out j HJ.out)
          obtain ⟨s9, hs9⟩ : ∃ s9, gi P.L j = s9 := ⟨_, rfl⟩
          rw [hs9] at HIS HG
          clear hs9
          go_wp2
          go_region_held3 (fun w' => DC A.X A.K A.W A.x A.wg g2 A.n cap2 w' ∧ w'.cell? ⟨g2, j, none⟩ = some (.int .i64 s9))
            (first | exact HC6.out | exact ⟨HDJ.out, HG.out⟩)
            (first | (go_at_call 12; refine (mis_any (j : Int) (HB5.out.mo.keep0 (Keep.trans HK.out (by (repeat (first | exact Keep.refl _ _ | exact Keep.refl _ _ | refine Keep.drew ?_ | refine Keep.drewN ?_ _ | refine Keep.alloc ?_ _ | refine Keep.setNew ?_ (by omega) _)); done)))).mono ?_; rw [HIS.out]; rintro e w6 ⟨rfl, hk6⟩; have HK6 : Hid (Keep (fun _ => False) w5 w6) := Keep.trans (Keep.trans HK.out (by (repeat (first | exact Keep.refl _ _ | exact Keep.refl _ _ | refine Keep.drew ?_ | refine Keep.drewN ?_ _ | refine Keep.alloc ?_ _ | refine Keep.setNew ?_ (by omega) _)); done)) hk6; have HC6 : Hid (DC A.X A.K A.W A.x A.wg g2 A.n cap2 w6 ∧ w6.cell? ⟨g2, j, none⟩ = some (.int .i64 s9)) := ⟨dc_keep HD5.out HK6.out, (HK6.out.cell (block_lt_cell (HCC.out j HJ.out)) id).trans ((HK.out.cell (block_lt_cell (HCC.out j HJ.out)) id).symm.trans HG.out)⟩; clear hk6))
          all_goals
            clear x0 x1 x2 x3 x4
            go_wp2
            go_loopw [12] (fun i wr => ∃ k : Nat, k ≤ 8 ∧ i = .int .i64 (k : Int) ∧ Keep (fun _ => False) w5 wr) (fun i _ => 8 - (intOf i).toNat)
            case atStart => exact ⟨0, by decide, rfl, by (repeat (first | exact HK6.out | exact Keep.refl _ _ | refine Keep.drew ?_ | refine Keep.drewN ?_ _ | refine Keep.alloc ?_ _ | refine Keep.setNew ?_ (by omega) _)); done⟩
            case round =>
              obtain ⟨k, hk8, rfl, hk2⟩ := hrel
              have HK2 := Lib.hid hk2
              clear hk2
              by_cases hlt : k < 8
              · have e9 : IntKind.i64.wrap ((k : Int) + 1) = (k : Int) + 1 := IntWalk.i64_in _ (by omega)
                obtain ⟨z, i, hz, hi, hin, hin2, ⟨u, u8, f1, f2, f3⟩, ⟨v, f4, f5⟩⟩ := ad_facts j k A.n HJ.out hlt HN.out
                have HE : Hid (P1.W i = P.W i) := HOJ.out.2 i (by omega) (by omega)
                have HLD : Hid (∀ W, Keep (fun _ => False) w5 W → Calls Tryz.prog 14 #[.pointer (some ⟨A.r, 0, none⟩), .int .i64 (z : Int)] W fun e w' => e = .returned (.tuple #[.int .u64 (P.W i : Nat), .int .i64 0]) ∧ w' = W) := fun W k => by
                  rw [← hz, ← HE.out]; exact load_ok (HB5.out.mo.keep0 k).ra hin
                have hwc : wr.cell? ⟨gw, i, none⟩ = some (.int .u64 (P.W i : Nat)) := (HK2.out.cell (block_lt_cell (HW5.out i (by have := HN8.out; omega))) id).trans (HW5.out i (by have := HN8.out; omega))
                rw [HN8.out] at hin2
                have HOF : Hid ((0 : Int) ≤ i) := by unfold Hid; omega
                clear hz hi hin HE
                go_wp2_with (first | (go_at_call 13; refine (mram_any (HB5.out.mo.keep0 (Keep.trans HK2.out (by (repeat (first | exact Keep.refl _ _ | exact Keep.refl _ _ | refine Keep.drew ?_ | refine Keep.drewN ?_ _ | refine Keep.alloc ?_ _ | refine Keep.setNew ?_ (by omega) _)); done)))).mono ?_; rintro e w8 ⟨rfl, rfl⟩) | (go_at_call 14; refine (HLD.out _ (Keep.trans HK2.out (by (repeat (first | exact Keep.refl _ _ | exact Keep.refl _ _ | refine Keep.drew ?_ | refine Keep.drewN ?_ _ | refine Keep.alloc ?_ _ | refine Keep.setNew ?_ (by omega) _)); done))).mono ?_; rintro e w9 ⟨rfl, rfl⟩))
                go_roundw
                case rel => exact ⟨k + 1, by omega, by go_num, HK2.out⟩
                case measure => simp [intOf]; omega
              · obtain rfl : k = 8 := by omega
                clear hlt
                go_wp2
                go_roundw
                case rel => exact ⟨j + 1, HJ.out, by go_num, HK2.out⟩
                case measure => simp [intOf]; omega
        · obtain ⟨d, hd⟩ : ∃ d, j = a + d := ⟨j - a, by omega⟩
          have e5 : IntKind.i64.wrap ((j : Int) - (a : Int)) = (d : Int) := (IntWalk.i64_in _ (by have := HN.out; have := HJ.out; omega)).trans (by omega)
          have t0 : decide ((a : Int) ≤ (j : Int)) = true := by simp; omega
          have t1 : decide (a ≤ j) = true := by simp; omega
          have t2 : decide ((d : Int) < (p : Int)) = false := by simp; omega
          have t3 : decide (d < p) = false := by simp; omega
          have HOJ := Lib.hid (HFAR.out j (.inr h))
          clear h hd
          have HIS : Hid (Fr.isF P1.L (j : Int) = gi P.L j) := (isF_in (by rw [HB5.out.mo.ln]; exact HJ.out)).trans HOJ.out.1
          have HG : Hid (wr.cell? ⟨g2, j, none⟩ = some (.int .i64 (gi P.L j))) := (HK.out.cell (block_lt_cell (HCC.out j HJ.out)) id).trans (HCC.out j HJ.out)
          obtain ⟨s9, hs9⟩ : ∃ s9, gi P.L j = s9 := ⟨_, rfl⟩
          rw [hs9] at HIS HG
          clear hs9
          go_wp2_with (go_at_call 16; refine (HSP.out _).mono ?_; rintro e w7 ⟨rfl, rfl⟩)
          go_region_held3 (fun w' => DC A.X A.K A.W A.x A.wg g2 A.n cap2 w' ∧ w'.cell? ⟨g2, j, none⟩ = some (.int .i64 s9))
            (first | exact HC6.out | exact ⟨HDJ.out, HG.out⟩)
            (first | (go_at_call 12; refine (mis_any (j : Int) (HB5.out.mo.keep0 (Keep.trans HK.out (by (repeat (first | exact Keep.refl _ _ | exact Keep.refl _ _ | refine Keep.drew ?_ | refine Keep.drewN ?_ _ | refine Keep.alloc ?_ _ | refine Keep.setNew ?_ (by omega) _)); done)))).mono ?_; rw [HIS.out]; rintro e w6 ⟨rfl, hk6⟩; have HK6 : Hid (Keep (fun _ => False) w5 w6) := Keep.trans (Keep.trans HK.out (by (repeat (first | exact Keep.refl _ _ | exact Keep.refl _ _ | refine Keep.drew ?_ | refine Keep.drewN ?_ _ | refine Keep.alloc ?_ _ | refine Keep.setNew ?_ (by omega) _)); done)) hk6; have HC6 : Hid (DC A.X A.K A.W A.x A.wg g2 A.n cap2 w6 ∧ w6.cell? ⟨g2, j, none⟩ = some (.int .i64 s9)) := ⟨dc_keep HD5.out HK6.out, (HK6.out.cell (block_lt_cell (HCC.out j HJ.out)) id).trans ((HK.out.cell (block_lt_cell (HCC.out j HJ.out)) id).symm.trans HG.out)⟩; clear hk6))
          all_goals
            clear x0 x1 x2 x3 x4
            go_wp2
            go_loopw [12] (fun i wr => ∃ k : Nat, k ≤ 8 ∧ i = .int .i64 (k : Int) ∧ Keep (fun _ => False) w5 wr) (fun i _ => 8 - (intOf i).toNat)
            case atStart => exact ⟨0, by decide, rfl, by (repeat (first | exact HK6.out | exact Keep.refl _ _ | refine Keep.drew ?_ | refine Keep.drewN ?_ _ | refine Keep.alloc ?_ _ | refine Keep.setNew ?_ (by omega) _)); done⟩
            case round =>
              obtain ⟨k, hk8, rfl, hk2⟩ := hrel
              have HK2 := Lib.hid hk2
              clear hk2
              by_cases hlt : k < 8
              · have e9 : IntKind.i64.wrap ((k : Int) + 1) = (k : Int) + 1 := IntWalk.i64_in _ (by omega)
                obtain ⟨z, i, hz, hi, hin, hin2, ⟨u, u8, f1, f2, f3⟩, ⟨v, f4, f5⟩⟩ := ad_facts j k A.n HJ.out hlt HN.out
                have HE : Hid (P1.W i = P.W i) := HOJ.out.2 i (by omega) (by omega)
                have HLD : Hid (∀ W, Keep (fun _ => False) w5 W → Calls Tryz.prog 14 #[.pointer (some ⟨A.r, 0, none⟩), .int .i64 (z : Int)] W fun e w' => e = .returned (.tuple #[.int .u64 (P.W i : Nat), .int .i64 0]) ∧ w' = W) := fun W k => by
                  rw [← hz, ← HE.out]; exact load_ok (HB5.out.mo.keep0 k).ra hin
                have hwc : wr.cell? ⟨gw, i, none⟩ = some (.int .u64 (P.W i : Nat)) := (HK2.out.cell (block_lt_cell (HW5.out i (by have := HN8.out; omega))) id).trans (HW5.out i (by have := HN8.out; omega))
                rw [HN8.out] at hin2
                have HOF : Hid ((0 : Int) ≤ i) := by unfold Hid; omega
                clear hz hi hin HE
                go_wp2_with (first | (go_at_call 13; refine (mram_any (HB5.out.mo.keep0 (Keep.trans HK2.out (by (repeat (first | exact Keep.refl _ _ | exact Keep.refl _ _ | refine Keep.drew ?_ | refine Keep.drewN ?_ _ | refine Keep.alloc ?_ _ | refine Keep.setNew ?_ (by omega) _)); done)))).mono ?_; rintro e w8 ⟨rfl, rfl⟩) | (go_at_call 14; refine (HLD.out _ (Keep.trans HK2.out (by (repeat (first | exact Keep.refl _ _ | exact Keep.refl _ _ | refine Keep.drew ?_ | refine Keep.drewN ?_ _ | refine Keep.alloc ?_ _ | refine Keep.setNew ?_ (by omega) _)); done))).mono ?_; rintro e w9 ⟨rfl, rfl⟩))
                go_roundw
                case rel => exact ⟨k + 1, by omega, by go_num, HK2.out⟩
                case measure => simp [intOf]; omega
              · obtain rfl : k = 8 := by omega
                clear hlt
                go_wp2
                go_roundw
                case rel => exact ⟨j + 1, HJ.out, by go_num, HK2.out⟩
                case measure => simp [intOf]; omega
        · obtain ⟨d, hd⟩ : ∃ d, j = a + d := ⟨j - a, by omega⟩
          have e5 : IntKind.i64.wrap ((j : Int) - (a : Int)) = (d : Int) := (IntWalk.i64_in _ (by have := HN.out; have := HJ.out; omega)).trans (by omega)
          have t0 : decide ((a : Int) ≤ (j : Int)) = true := by simp; omega
          have t1 : decide (a ≤ j) = true := by simp; omega
          have t2 : decide ((d : Int) < (p : Int)) = true := by simp; omega
          have t3 : decide (d < p) = true := by simp; omega
          have hg := (HK.out.cell (block_lt_cell (HCC.out j HJ.out)) id).trans (HCC.out j HJ.out)
          rw [HZ.out j h.1 h.2] at hg
          clear h hd
          go_wp2_with (go_at_call 16; refine (HSP.out _).mono ?_; rintro e w7 ⟨rfl, rfl⟩)
          go_roundw
          case rel => exact ⟨j + 1, HJ.out, by go_num, HK.out⟩
          case measure => simp [intOf]; have := HJ.out; omega
      · obtain rfl : j = A.n := by omega
        clear hlt
        go_wp2
        go_ret
        exact ⟨rfl, Up.below (up_base HK1.out (Keep.trans HU5.out (Up.of HK.out)))⟩

end Go.Proofs.YtjffdimlbppgcaaGreat
