/- Gather: GatherCovers, the walk. -/
import Derived.Test.YtibcfglfcoljgaaAI
set_option linter.unusedVariables false
set_option linter.unusedSimpArgs false
namespace Go.Proofs.Ytibcfglfcoljgaa
open Go.RowKit Go.Own

def smN (D : List Fl) (k : Nat) : Int := ((D.take k).map (·.n)).sum
theorem smN_succ (D : List Fl) {k : Nat} (hk : k < D.length) : smN D (k + 1) = smN D k + D[k].n := by
  unfold smN; rw [List.take_succ_eq_append_getElem hk, List.map_append, List.sum_append, List.map_cons, List.map_nil, List.sum_cons, List.sum_nil]; omega
theorem smN_bd {D : List Fl} (h : Can D) : ∀ k, k ≤ D.length → 0 ≤ smN D k ∧ smN D k ≤ 4096 * k := by
  intro k
  induction k with
  | zero => intro _; simp [smN]
  | succ k ih =>
    intro hk
    have h1 := ih (by omega)
    rw [smN_succ D (by omega)]
    have hf := h.fi _ (List.getElem_mem (show k < D.length by omega))
    unfold fine at hf
    omega
def inB (x : Sp) (d : Fl) : Bool := decide (d.s = x.s) && (decide (d.p ≤ x.p) && decide (x.p < d.p + d.n))
/-- The pages of stretches, one by one. -/
def pgs (D : List Fl) : List Sp := D.flatMap fun d => (List.range d.n.toNat).map fun (i : Nat) => (⟨d.s, d.p + i⟩ : Sp)
theorem pgs_mem (D : List Fl) (x : Sp) : x ∈ pgs D ↔ cov D x.s x.p := by
  unfold pgs cov inF
  rw [List.mem_flatMap]
  constructor
  · rintro ⟨d, hd, h⟩
    obtain ⟨i, hi, rfl⟩ := List.mem_map.mp h
    rw [List.mem_range] at hi
    exact ⟨d, hd, rfl, by simp only; omega, by simp only; omega⟩
  · rintro ⟨d, hd, h1, h2, h3⟩
    refine ⟨d, hd, List.mem_map.mpr ⟨(x.p - d.p).toNat, List.mem_range.mpr (by omega), ?_⟩⟩
    cases x; simp only at *
    rw [h1]; congr 1; omega
theorem pgs_nodup : ∀ {D : List Fl}, Can D → (pgs D).Nodup
  | [], _ => List.nodup_nil
  | d :: D, h => by
    have e : pgs (d :: D) = (List.range d.n.toNat).map (fun (i : Nat) => (⟨d.s, d.p + i⟩ : Sp)) ++ pgs D := by simp [pgs]
    rw [e, List.nodup_append]
    refine ⟨?_, pgs_nodup h.tail, fun a ha b hb => ?_⟩
    · unfold List.Nodup
      rw [List.pairwise_map]
      refine (List.nodup_range (n := d.n.toNat)).imp ?_
      intro a b hab e
      injection e with _ e2
      omega
    · obtain ⟨i, hi, rfl⟩ := List.mem_map.mp ha
      rw [List.mem_range] at hi
      rw [pgs_mem] at hb
      obtain ⟨y, hy, h1, h2, h3⟩ := hb
      have h4 := (List.pairwise_cons.mp h.or).1 y hy
      intro e
      subst e
      unfold befF at h4
      simp only at h1 h2 h3
      omega
theorem pgs_len : ∀ {D : List Fl}, Can D → ((pgs D).length : Int) = smN D D.length
  | [], _ => by simp [pgs, smN]
  | d :: D, h => by
    have e : pgs (d :: D) = (List.range d.n.toNat).map (fun (i : Nat) => (⟨d.s, d.p + i⟩ : Sp)) ++ pgs D := by simp [pgs]
    have h1 := pgs_len h.tail
    have hf := h.fi d (List.mem_cons_self ..)
    unfold fine at hf
    rw [e, List.length_append, List.length_map, List.length_range]
    unfold smN at h1 ⊢
    rw [List.take_length] at h1 ⊢
    simp only [List.map_cons, List.sum_cons]
    omega
theorem covers_sum {D : List Fl} {P : List Sp} (h : Can D) (hn : P.Nodup) (hc : ∀ s y, (⟨s, y⟩ : Sp) ∈ P ↔ cov D s y) : smN D D.length = (P.length : Int) := by
  rw [← pgs_len h]
  have hp : P.Perm (pgs D) := (List.perm_ext_iff_of_nodup hn (pgs_nodup h)).mpr fun x => by rw [pgs_mem]; exact hc x.s x.p
  rw [hp.length_eq]
theorem covers_any {D : List Fl} {P : List Sp} (hc : ∀ s y, (⟨s, y⟩ : Sp) ∈ P ↔ cov D s y) {x : Sp} (hx : x ∈ P) : D.any (inB x) = true := by
  obtain ⟨d, hd, h1, h2, h3⟩ := (hc x.s x.p).mp hx
  rw [List.any_eq_true]
  exact ⟨d, hd, by unfold inB; simp; exact ⟨h1, h2, h3⟩⟩
theorem any_succ {α : Type} (D : List α) (f : α → Bool) {k : Nat} (hk : k < D.length) : (D.take (k + 1)).any f = ((D.take k).any f || f D[k]) := by
  rw [List.take_succ_eq_append_getElem hk, List.any_append]; simp

set_option maxRecDepth 100000 in
set_option maxHeartbeats 8000000 in
theorem covers_walk (la : Option Addr) (l c : Nat) (w : World) (hr : RowsAt w la l [.int .i64, .int .i64, .int .i64, .int .i64, .int .i64, .int .i64]) :
    Calls Try.prog 4 #[.slice la l c] w fun e w' => e = .returned (.bool true) ∧ Below w.heap.size w w' := by
  obtain ⟨A, rfl, hA⟩ := actsG_of_rows hr
  have H1 := Lib.hid hA
  clear hA hr
  have HMA := Lib.hid (made_any 9 (by omega) (by omega) la A c w H1.out)
  go_enter Try.func4, Try.ntmps4
  go_wp2_with fail
  refine HMA.out.mono ?_
  rintro e w1 ⟨p, q, rfl, ⟨L, P, Q, r, i, hi, hS⟩, hp, hq⟩
  have HS := Lib.hid hS
  have HPQ := Lib.hid (And.intro hp hq)
  clear hS hp hq
  go_wp2_with fail
  refine (awake_any _).mono ?_
  rintro e w2 ⟨rfl, hk2⟩
  have HS2 := Lib.hid (HS.out.on hk2)
  have HLP : Hid (P.length ≤ 1800 ∧ L.length ≤ 30 ∧ r < 900) := ⟨by have := HS.out.lp; omega, by have := HS.out.ll; omega, by have := HS.out.lr; omega⟩
  clear hk2
  obtain ⟨v2, u2, pv2, bv2, hH2, hX2, hap⟩ := HS2.out.two
  have HX2 := Lib.hid hX2
  obtain ⟨-, c1, -, -⟩ := hX2.cs
  obtain ⟨ap, cp, rfl, -⟩ := hX2.hv.slice
  have HT2 : Hid (TwoX w2 w.heap.size p q 9 L P Q Q r r) := HS2.out.two
  clear hH2 hX2 hap
  go_wp2_with fail
  refine (do10 (HT2.out.keep0 (by (repeat (first | exact Keep.refl _ _ | exact Keep.refl _ _ | refine Keep.drew ?_ | refine Keep.drewN ?_ _ | refine Keep.alloc ?_ _ | refine Keep.setNew ?_ (by omega) _)); done)) HS2.out.good HLP.out.2.2 HPQ.out.1).mono ?_
  rintro e w3 ⟨v, u, D, rfl, d1, d2, d3, d4, ht, hk3⟩
  have HK3 : Hid (Keep (fun _ => False) w w3) := farS (HS2.out.keep.trans (by (repeat (first | exact Keep.refl _ _ | exact Keep.refl _ _ | refine Keep.drew ?_ | refine Keep.drewN ?_ _ | refine Keep.alloc ?_ _ | refine Keep.setNew ?_ (by omega) _)); done)) hk3
  have HC : Hid (Can D) := can_of HS2.out.good d1 d2
  have HCV : Hid (∀ s y, (⟨s, y⟩ : Sp) ∈ P ↔ cov D s y) := fun s y => by
    rw [HS2.out.cv]
    exact ⟨fun ⟨x, hx, h⟩ => ⟨x, d1.mem_iff.mpr hx, h⟩, fun ⟨x, hx, h⟩ => ⟨x, d1.mem_iff.mp hx, h⟩⟩
  have hDl : D.length ≤ 30 := by rw [d1.length_eq]; exact HLP.out.2.1
  have HSUM := Lib.hid (covers_sum HC.out HS2.out.nd HCV.out)
  have HD := Lib.hid d3
  obtain ⟨v3, u3, pv3, bv3, hH3, hX3, hap⟩ := ht
  have HX3 := Lib.hid hX3
  obtain ⟨a3, c3, rfl, hag3⟩ := d3.slice
  have HAG3 := Lib.hid hag3
  obtain ⟨ap3, cp3, rfl, hagp⟩ := hX3.hv.slice
  have HAGP := Lib.hid hagp
  have hPl := HLP.out.1
  clear d1 d2 d3 d4 hk3 c1 hH3 hX3 hap hag3 hagp
  go_wp2
  go_loopw [9, 10] (fun s i wr => ∃ k : Nat, k ≤ D.length ∧ i = .int .i64 k ∧ s = .int .i64 (smN D k) ∧ Keep (fun _ => False) w3 wr) (fun _ i _ => D.length - (intOf i).toNat)
  case atStart => exact ⟨0, by omega, rfl, by simp [smN], Keep.refl _ _⟩
  case round =>
    obtain ⟨k, hk, rfl, rfl, hkeep⟩ := hrel
    have HK := Lib.hid hkeep
    clear hkeep
    by_cases hlt : k < D.length
    · obtain ⟨g3, rfl⟩ := HAG3.out (by intro e; rw [e] at hlt; simp at hlt)
      have HDr := Lib.hid (HD.out.keep HK.out (fun _ _ => id))
      obtain ⟨e0, e1, e2⟩ := fl_cells HDr.out hlt
      have hf := HC.out.fi _ (List.getElem_mem hlt)
      have hsb := smN_bd HC.out k hk
      have hss := smN_succ D hlt
      have HBF := Lib.hid (fun (j : Nat) (hj : j < k) => (List.pairwise_iff_getElem.mp HC.out.or) j k (by omega) hlt hj)
      obtain ⟨x, hx⟩ : ∃ x, D[k] = x := ⟨_, rfl⟩
      rw [hx] at e0 e1 e2 hf hss HBF
      clear hx
      obtain ⟨s0, hs0⟩ : ∃ s, smN D k = s := ⟨_, rfl⟩
      rw [hs0] at hsb hss ⊢
      have HSS := Lib.hid hss
      unfold fine at hf
      have a1 : IntKind.i64.wrap (s0 + x.n) = s0 + x.n := IntWalk.i64_in _ (by omega)
      have k0 : (0 : Int) ≤ (k : Int) := Int.natCast_nonneg k
      have k1 : (k : Int) < (D.length : Int) := Int.ofNat_lt.mpr hlt
      have t0 : decide (x.n < 1) = false := decide_eq_false (by omega)
      clear hss hs0
      rcases k with _ | j
      · have t1 : decide ((0 : Int) < ((0 : Nat) : Int)) = false := by decide
        go_wp2
        go_quiet (fail)
        go_wp2
        go_roundw
        case rel => exact ⟨0 + 1, by omega, by go_num, by rw [HSS.out], HK.out.drewN _⟩
        case measure => simp [intOf]; omega
      · have hjl : j < D.length := by omega
        obtain ⟨f0, f1, f2⟩ := fl_cells HDr.out hjl
        have hb := HBF.out j (by omega)
        have hfy := HC.out.fi _ (List.getElem_mem hjl)
        obtain ⟨y, hy⟩ : ∃ y, D[j] = y := ⟨_, rfl⟩
        rw [hy] at f0 f1 f2 hb hfy
        clear hy
        unfold fine at hfy
        have t1 : decide ((0 : Int) < ((j + 1 : Nat) : Int)) = true := decide_eq_true (by omega)
        have t1' : decide ((0 : Int) < (j : Int) + 1) = true := decide_eq_true (by omega)
        have a2 : IntKind.i64.wrap (((j + 1 : Nat) : Int) - 1) = (j : Int) := by rw [show ((j + 1 : Nat) : Int) - 1 = j by omega]; exact IntWalk.i64_in _ (by omega)
        have a2' : IntKind.i64.wrap ((j : Int) + 1 - 1) = (j : Int) := by rw [show (j : Int) + 1 - 1 = j by omega]; exact IntWalk.i64_in _ (by omega)
        have a3 : IntKind.i64.wrap (y.p + y.n) = y.p + y.n := IntWalk.i64_in _ (by omega)
        have j0 : (0 : Int) ≤ (j : Int) := Int.natCast_nonneg j
        have j1 : (j : Int) < (D.length : Int) := Int.ofNat_lt.mpr hjl
        have j2 : (j : Int) + 1 < (D.length : Int) := by omega
        have t2 : decide (x.s < y.s) = false := decide_eq_false (by unfold befF at hb; omega)
        unfold befF at hb
        by_cases es : x.s = y.s
        · have t3 : (x.s == y.s) = true := by simpa using es
          have t4 : decide (x.p ≤ y.p + y.n) = false := decide_eq_false (by omega)
          clear es hb
          go_wp2
          go_quiet (fail)
          go_wp2
          go_roundw
          case rel => exact ⟨j + 1 + 1, by omega, by go_num, by rw [HSS.out], HK.out.drewN _⟩
          case measure => simp [intOf]; omega
        · have t3 : (x.s == y.s) = false := by simpa using es
          clear es hb
          go_wp2
          go_quiet (fail)
          go_wp2
          go_roundw
          case rel => exact ⟨j + 1 + 1, by omega, by go_num, by rw [HSS.out], HK.out.drewN _⟩
          case measure => simp [intOf]; omega
    · obtain rfl : k = D.length := by omega
      rw [HSUM.out]
      go_wp2
      go_loopw [11] (fun i w5 => ∃ k : Nat, k ≤ P.length ∧ i = .int .i64 k ∧ Keep (fun _ => False) w3 w5) (fun i _ => P.length - (intOf i).toNat)
      case atStart => exact ⟨0, by omega, rfl, HK.out⟩
      case round =>
        obtain ⟨k, hk, rfl, hkeep⟩ := hrel
        have HK5 := Lib.hid hkeep
        clear hkeep
        by_cases hlt : k < P.length
        · obtain ⟨gp, rfl⟩ := HAGP.out (by intro e; rw [e] at hlt; simp at hlt)
          have HCEL := Lib.hid (fun (W : World) (h : Keep (fun _ => False) w3 W) => sp_cells (HX3.out.keep0 h).hv hlt)
          have HANY := Lib.hid (covers_any HCV.out (List.getElem_mem hlt))
          obtain ⟨x, hx⟩ : ∃ x, P[k] = x := ⟨_, rfl⟩
          rw [hx] at HCEL HANY
          clear hx
          have k0 : (0 : Int) ≤ (k : Int) := Int.natCast_nonneg k
          have k1 : (k : Int) < (P.length : Int) := Int.ofNat_lt.mpr hlt
          go_wp2
          go_loopw [12, 13] (fun fd i w6 => ∃ j : Nat, j ≤ D.length ∧ i = .int .i64 j ∧ fd = .bool ((D.take j).any (inB x)) ∧ Keep (fun _ => False) w3 w6) (fun _ i _ => D.length - (intOf i).toNat)
          case atStart => exact ⟨0, by omega, rfl, by simp, HK5.out⟩
          case round =>
            obtain ⟨j, hj, rfl, rfl, hkeep⟩ := hrel
            have HK6 := Lib.hid hkeep
            clear hkeep
            by_cases hjl : j < D.length
            · obtain ⟨g3, rfl⟩ := HAG3.out (by intro e; rw [e] at hjl; simp at hjl)
              obtain ⟨e0, e1, e2⟩ := fl_cells (HD.out.keep HK6.out (fun _ _ => id)) hjl
              obtain ⟨c0, c1⟩ := HCEL.out _ HK6.out
              obtain ⟨-, b1, -, -⟩ := (HX3.out.keep0 HK6.out).cs
              have hf := HC.out.fi _ (List.getElem_mem hjl)
              have hsc := any_succ D (inB x) hjl
              obtain ⟨y, hy⟩ : ∃ y, D[j] = y := ⟨_, rfl⟩
              rw [hy] at e0 e1 e2 hf hsc
              clear hy
              unfold fine at hf
              have j0 : (0 : Int) ≤ (j : Int) := Int.natCast_nonneg j
              have j1 : (j : Int) < (D.length : Int) := Int.ofNat_lt.mpr hjl
              have a3 : IntKind.i64.wrap (y.p + y.n) = y.p + y.n := IntWalk.i64_in _ (by omega)
              obtain ⟨fb, hfb⟩ : ∃ fb, (D.take j).any (inB x) = fb := ⟨_, rfl⟩
              rw [hfb] at hsc ⊢
              clear hfb
              cases fb with
              | true =>
                have HSC : Hid ((D.take (j + 1)).any (inB x) = true) := by unfold Hid; rw [hsc]; rfl
                clear hsc
                go_wp2
                go_quiet (fail)
                go_wp2
                go_roundw
                case rel => exact ⟨j + 1, by omega, by go_num, by rw [HSC.out], HK6.out.drewN _⟩
                case measure => simp [intOf]; omega
              | false =>
                by_cases g1 : y.s = x.s
                · have t1 : (y.s == x.s) = true := by simpa using g1
                  by_cases g2 : y.p ≤ x.p
                  · have t2 : decide (y.p ≤ x.p) = true := decide_eq_true g2
                    by_cases g4 : x.p < y.p + y.n
                    · have t4 : decide (x.p < y.p + y.n) = true := decide_eq_true g4
                      have HSC : Hid ((D.take (j + 1)).any (inB x) = true) := by unfold Hid; rw [hsc]; unfold inB; rw [decide_eq_true g1, t2, t4]; rfl
                      clear hsc g1 g2 g4
                      go_wp2
                      go_quiet (fail)
                      go_wp2
                      go_roundw
                      case rel => exact ⟨j + 1, by omega, by go_num, by rw [HSC.out], HK6.out.drewN _⟩
                      case measure => simp [intOf]; omega
                    · have t4 : decide (x.p < y.p + y.n) = false := decide_eq_false g4
                      have HSC : Hid ((D.take (j + 1)).any (inB x) = false) := by unfold Hid; rw [hsc]; unfold inB; rw [decide_eq_true g1, t2, t4]; rfl
                      clear hsc g1 g2 g4
                      go_wp2
                      go_quiet (fail)
                      go_wp2
                      go_roundw
                      case rel => exact ⟨j + 1, by omega, by go_num, by rw [HSC.out], HK6.out.drewN _⟩
                      case measure => simp [intOf]; omega
                  · have t2 : decide (y.p ≤ x.p) = false := decide_eq_false g2
                    have HSC : Hid ((D.take (j + 1)).any (inB x) = false) := by unfold Hid; rw [hsc]; unfold inB; rw [decide_eq_true g1, t2]; rfl
                    clear hsc g1 g2
                    go_wp2
                    go_quiet (fail)
                    go_wp2
                    go_roundw
                    case rel => exact ⟨j + 1, by omega, by go_num, by rw [HSC.out], HK6.out.drewN _⟩
                    case measure => simp [intOf]; omega
                · have t1 : (y.s == x.s) = false := by simpa using g1
                  have HSC : Hid ((D.take (j + 1)).any (inB x) = false) := by unfold Hid; rw [hsc]; unfold inB; rw [decide_eq_false g1]; rfl
                  clear hsc g1
                  go_wp2
                  go_quiet (fail)
                  go_wp2
                  go_roundw
                  case rel => exact ⟨j + 1, by omega, by go_num, by rw [HSC.out], HK6.out.drewN _⟩
                  case measure => simp [intOf]; omega
            · obtain rfl : j = D.length := by omega
              rw [List.take_length, HANY.out]
              go_wp2
              go_roundw
              case rel => exact ⟨k + 1, by omega, by go_num, HK6.out⟩
              case measure => simp [intOf]; omega
        · obtain rfl : k = P.length := by omega
          go_wp2
          go_ret
          exact ⟨rfl, (HK3.out.trans HK5.out).below⟩

end Go.Proofs.Ytibcfglfcoljgaa
