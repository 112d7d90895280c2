/- CompoundSplits: the walk. -/
import Derived.Test.YtdomdjfecnbenaaAM
import Derived.Test.YtdomdjfecnbenaaAK
set_option linter.unusedVariables false
set_option linter.unusedSimpArgs false
namespace Go.Proofs.Ytdomdjfecnbenaa
open Go.RowKit Go.Own

theorem bo_row (n : Nat) : boE.cs (List.replicate n false) = List.replicate n (.bool false) := by
  induction n with
  | zero => rfl
  | succ n ih => rw [List.replicate_succ, List.replicate_succ]; show boE.c false ++ boE.cs _ = _; rw [ih]; rfl
theorem bo_at {w : World} {B g cap i : Nat} {MT : List Bool} (h : OwnL boE w B 4 (.slice (some ⟨g, 0, none⟩) 1024 cap) MT) (hl : MT.length = 1024) (hi : i < 1024) : w.cell? ⟨g, i, none⟩ = some (.bool (MT.getD i false)) := by
  have h1 := OwnL.cell (j := 0) h (i := i) (by omega) (by decide)
  rw [show MT.getD i false = MT[i] by simp [show i < MT.length by omega]]
  simpa [boE] using h1

theorem whA_cases (L : List Cp) (f : Int) (h0 : 0 ≤ f) : (∀ c, c ∈ L → c.f ≠ ((f.toNat / 8 * 8 : Nat) : Int)) ∨ ∃ k : Nat, whA L f = k := by
  unfold whA
  rw [if_neg (by omega)]
  rcases whI_cases L ((f.toNat / 8 * 8 : Nat) : Int) with ⟨h1, h2⟩ | ⟨k, h1, _⟩
  · refine .inl fun c hc e => ?_
    obtain ⟨j, hj, rfl⟩ := List.getElem_of_mem hc
    exact h2 j hj e
  · exact .inr ⟨k, h1⟩

/-- Within a round: ii of the frames M are met. -/
def InI (w6 w2 : World) (B gm : Nat) (Lk : List Cp) (M : List Int) (ii : Nat) : Prop := ∃ MT : List Bool, OwnL boE w2 B 4 (.slice (some ⟨gm, 0, none⟩) 1024 1024) MT ∧ MT.length = 1024 ∧
  (∀ f : Nat, f < 1024 → MT.getD f false = true → (∀ c, c ∈ Lk → c.f ≠ ((f / 8 * 8 : Nat) : Int)) ∨ (f : Int) ∈ M.take ii) ∧ Keep (fun z => z = gm) w6 w2

set_option maxRecDepth 100000 in
set_option maxHeartbeats 8000000 in
theorem splits_walk (la : Option Addr) (l c : Nat) (w : World) (hr : RowsAt w la l [.int .i64, .int .i64]) :
    Calls Try.prog 5 #[.slice la l c] w fun e w' => e = .returned (.bool true) ∧ Below w.heap.size w w' := by
  obtain ⟨A, rfl, hA⟩ := acts2_of_rows hr
  have H1 := Lib.hid hA
  clear hA hr
  go_enter Try.func5, Try.ntmps5
  go_wp2_with (first | (go_at_call 13; refine (made_any la A c _ H1.out).mono ?_; rintro e w1 ⟨p, q, rfl, hT, hk1⟩; have HT := Lib.hid hT; have HK1 := Lib.hid hk1; clear hT hk1) | (go_at_call 9; refine (awake_any _).mono ?_; rintro e w2 ⟨rfl, hk2⟩; have HT2 := Lib.hid (HT.out.keep0 hk2); have HK2 := Lib.hid (HK1.out.trans hk2); clear hk2) | (refine wpl_make et28 rfl (.const (.int .i64 1024)) (.const (.int .i64 1024)) rfl w.heap.size 1024 1024 1024 rfl rfl rfl rfl (by omega) (by omega) rfl HK2.out.size ?_; intro w3 ho3 hg3; have HO3 := Lib.hid ho3; have HK23 : Hid (Keep (fun _ => False) w2 w3) := Keep.grown (Keep.refl _ _) hg3 (fun x h _ => by cases h); clear ho3 hg3))
  obtain ⟨v, u, vx, L, Q, X, T, hV2⟩ := HT2.out
  have HV := Lib.hid (hV2.keep0 HK23.out)
  have hlq := hV2.lq
  have hll := hV2.ll
  have hXlen : X.length = L.length := by have := hV2.iv.pm.length_eq; rw [List.length_map] at this; omega
  have HXL := Lib.hid hXlen
  have hQX := hV2.iv.qlen
  have hX80 : X.length ≤ 80 := by omega
  have HGX : Hid (q < w2.heap.size ∧ (∀ x, vx.ownBlock = some x → x < w2.heap.size) ∧ ∀ x, x ∈ X → x.g < w2.heap.size) := ⟨block_lt hV2.rx.hp, fun x hx => (hV2.rx.hv.lt x hx).2, fun x hx => (hV2.rx.glt hx).2⟩
  obtain ⟨gm, hgm⟩ : ∃ gm, w2.heap.size = gm := ⟨_, rfl⟩
  rw [hgm] at HGX
  have HO3' : Hid (w3.ownsRow w.heap.size 4 1 (.slice (some ⟨gm, 0, none⟩) 1024 1024) 1024 (List.replicate 1024 (.bool false))) := by unfold Hid; rw [← hgm]; exact HO3.out
  have HK3 := Lib.hid (HK2.out.trans HK23.out)
  clear HO3 hXlen HT HT2 hV2
  have HST : Hid (SpI w w3 p q gm vx L Q X T 0 0) := by
    have hO : OwnL boE w3 w.heap.size 4 (.slice (some ⟨gm, 0, none⟩) 1024 1024) (List.replicate 1024 false) := by
      unfold OwnL; rw [List.length_replicate, bo_row]; exact HO3'.out
    refine ⟨v, u, L, X, List.replicate 1024 false, HV.out.rc, HV.out.iv, HV.out.rx, fun _ h => h, hO, by simp, ?_, by omega, HV.out.bp, HK3.out⟩
    intro f hf h
    rw [List.getD_eq_getElem?_getD, List.getElem?_replicate] at h
    split at h <;> cases h
  rw [hgm]
  clear HO3' hgm
  go_loopw [7, 8] (fun n k wr => ∃ kk nn : Nat, kk ≤ Q.length ∧ k = .int .i64 kk ∧ n = .int .i64 nn ∧ nn ≤ 640 ∧ SpI w wr p q gm vx L Q X T kk nn) (fun _ k _ => X.length + 1 - (intOf k).toNat)
  case atStart => exact ⟨0, 0, by omega, rfl, rfl, by omega, HST.out⟩
  case round =>
    obtain ⟨kk, nn, hkq, rfl, rfl, hnn, v5, u5, Lk, Xk, MT, hS⟩ := hrel
    have HS := Lib.hid hS
    clear hS HST
    obtain ⟨aX, capX, rfl, hagX⟩ := HS.out.rx.hv.slice
    have HAGX := Lib.hid hagX
    clear hagX
    have e3 := HS.out.rx.c0
    have hkX : kk ≤ X.length := by omega
    by_cases hlt : kk < Q.length
    · have hdr := List.drop_eq_getElem_cons hlt
      have hqk := HS.out.iv.qok Q[kk] (by rw [hdr]; exact List.mem_cons_self ..)
      obtain ⟨x, k', hx1, hx2, hx3, hx4, hk', hx5, hx6⟩ := hqk
      have HC : Hid (RepC wr w.heap.size p v5 u5 Lk ((x : Int) :: Q.drop (kk + 1))) := by have h := HS.out.rc; rw [hdr, hx1] at h; exact h
      have HI : Hid (Inv Lk ((x : Int) :: Q.drop (kk + 1)) Xk T) := by have h := HS.out.iv; rw [hdr, hx1] at h; exact h
      have HW : Hid (whI Lk ((x / 8 * 8 : Nat) : Int) = k') := by unfold Hid; rw [hx3]; exact hx4
      have HFX := Lib.hid hx5
      have HBX := Lib.hid hx6
      have hfr := HI.out.fr _ (List.getElem_mem hk')
      clear hdr hx1 hx4
      go_wp2_with fail
      refine (next_yes w.heap.size p v5 u5 Lk _ x k' hx2 _ HC.out HW.out hk').mono ?_
      unfold cpV
      rw [hx5]
      rintro e w5 ⟨rfl, hk5⟩
      obtain ⟨b, hb⟩ : ∃ b, Lk[k'].b = b := ⟨_, rfl⟩
      have HB := Lib.hid hb
      rw [hb]
      rw [hb] at hfr hx6
      clear hb hx5 e3
      have HK5a : Hid (Keep (fun _ => False) wr (w5.alloc (.cells #[.int .i64 x, .int .u8 b] 39))) := hk5.alloc _
      obtain ⟨y0, y1⟩ := cells2 (heap_alloc_new w5 (.cells #[.int .i64 x, .int .u8 b] 39))
      go_wp2_with fail
      have hbw : w.heap.size ≤ (w5.alloc (.cells #[.int .i64 x, .int .u8 b] 39)).heap.size := by have := HS.out.kp.size; have := HK5a.out.size; omega
      refine (split_yes w.heap.size p v5 u5 Lk _ x k' hx2 _ hbw (HC.out.keep0 HK5a.out) HW.out hk' (by rw [HFX.out]; omega)).mono ?_
      rw [HFX.out, HB.out, lvQ_head]
      rintro e w6 ⟨v6, u6, y6, rfl, hC6, hO6, hk6, -, -⟩
      obtain ⟨M, hM⟩ : ∃ M, lostN (x : Int) b 8 = M := ⟨_, rfl⟩
      rw [hM] at hO6
      have HM := Lib.hid hM
      have hMl : M.length = pcN b 8 := by rw [← hM]; exact lostN_pc _ _ _
      have HML := Lib.hid hMl
      have hM8 : M.length ≤ 8 := by rw [hMl]; exact pcN_le _ _
      have hM0 : ((M.length : Int) == 0) = false := by
        have := pc_zero ⟨b, by omega⟩
        simp only [eq_iff_iff] at this
        rw [beq_eq_false_iff_ne]; omega
      have HC6 := Lib.hid hC6
      have HO6 := Lib.hid hO6
      have HK6 := Lib.hid hk6
      obtain ⟨a6, c6, rfl, hag6⟩ := hO6.slice
      have HAG6 := Lib.hid hag6
      clear hM hMl hC6 hO6 hk6 hag6 y0 y1
      have HK56 : Hid (Keep (fun z => z = p) wr w6) := ((HK5a.out.mono (fun _ _ h => h.elim)).trans HK6.out)
      have HX6 : Hid (RepX w6 w.heap.size q (.slice aX X.length capX) X T) := HS.out.rx.past HC.out (HK56.out.mono fun _ _ h => .inl h)
      have HO6' : Hid (OwnL boE w6 w.heap.size 4 (.slice (some ⟨gm, 0, none⟩) 1024 1024) MT) := HS.out.om.keep HK56.out (fun z hz e => by
        obtain ⟨c, hc⟩ := own_typ HS.out.om hz
        exact typ_ne hc HC.out.hp (by decide) e)
      have hin0 : Hid (InI w6 w6 w.heap.size gm Lk M 0) := ⟨MT, HO6'.out, HS.out.ml, fun f hf h => .inl (HS.out.mt f hf h), Keep.refl _ _⟩
      go_wp2_with fail
      go_loopw [7, 13] (fun n i w7 => ∃ ii : Nat, ii ≤ M.length ∧ i = .int .i64 ii ∧ n = .int .i64 (nn + ii : Nat) ∧ InI w6 w7 w.heap.size gm Lk M ii) (fun _ i _ => M.length - (intOf i).toNat)
      case atStart => exact ⟨0, by omega, rfl, rfl, hin0.out⟩
      case round =>
        obtain ⟨ii, hii, rfl, rfl, MT2, hO7, hml7, hmt7, hk7⟩ := hrel
        have HO7 := Lib.hid hO7
        have HML7 := Lib.hid hml7
        have HMT7 := Lib.hid hmt7
        have HK7 := Lib.hid hk7
        clear hO7 hml7 hmt7 hk7
        by_cases hil : ii < M.length
        · obtain ⟨g6, rfl⟩ := HAG6.out (by intro e; rw [e] at hil; simp at hil)
          have HM7 := Lib.hid (HO6.out.keep HK7.out (fun z hz e => by
            obtain ⟨c1, h1⟩ := own_typ HO6.out hz
            obtain ⟨c2, h2⟩ := own_typ HO6'.out (x := gm) rfl
            exact typ_ne h1 h2 (by decide) e))
          have hmi := in_cell HM7.out hil
          have hmem : M[ii] ∈ lostN (x : Int) b 8 := by rw [HM.out]; exact List.getElem_mem hil
          obtain ⟨t, ht8, hzt, hbt⟩ := (lostN_mem _ _ _ _).mp hmem
          have HX7 : Hid (RepX wr w.heap.size q (.slice aX X.length capX) X T) := HX6.out.keep HK7.out (by have := HGX.out.1; omega) (fun z hz e => by have := HGX.out.2.1 z hz; omega) (fun z hz e => by have := HGX.out.2.2 z hz; omega)
          have hfi := HV.out.iv.find M[ii]
          have hcL : Lk[k'] ∈ L := HS.out.sb _ (List.getElem_mem hk')
          rcases hfi with ⟨h1, h2⟩ | ⟨k2, j, xn, hz, hxn, h1, h1', h2, hk2, hj, he, hfd, hX1, hX2⟩
          · exfalso
            rcases whA_cases L M[ii] (by omega) with h3 | h3
            · exact h3 _ hcL (by rw [HFX.out, hzt]; omega)
            · omega
          have hLk : L[k2] = Lk[k'] := mem_uniq HV.out.iv.so (List.getElem_mem hk2) hcL (by rw [HFX.out, hfd]; omega)
          have hXf : X[j].f = (x : Int) := (congrArg Cp.f he).trans (by rw [hLk, HFX.out])
          have hXb : X[j].b = b := (congrArg Cp.b he).trans (by rw [hLk, HB.out])
          have hz' : M[ii] = ((x + t : Nat) : Int) := by rw [hzt]; omega
          have hMZ : Hid (MT2.getD (x + t) false = false) := by
            unfold Hid
            cases hg : MT2.getD (x + t) false with
            | false => rfl
            | true =>
              exfalso
              rcases HMT7.out (x + t) (by omega) hg with h | h
              · exact h _ (List.getElem_mem hk') (by rw [HFX.out]; omega)
              · have hp := lostN_lt (x : Int) b 8
                rw [HM.out] at hp
                obtain ⟨s, hs, e⟩ := List.getElem_of_mem h
                rw [List.length_take] at hs
                rw [List.getElem_take] at e
                have := List.pairwise_iff_getElem.mp hp s ii (by omega) hil (by omega)
                rw [hz'] at this
                omega
          have hxt : x + t < 1024 := by omega
          have hbo := HX7.out.hb _ (List.getElem_mem hj)
          unfold On.v at hbo
          have c7 := bo_cell hbo ht8
          rw [hXb] at c7
          have hbt' : (b / 2 ^ t % 2 == 1) = true := by simpa using hbt
          rw [hbt'] at c7
          have c8 := bo_at HO7.out HML7.out hxt
          rw [hMZ.out] at c8
          have c9 := HX7.out.c0
          obtain ⟨gX, rfl⟩ := HAGX.out (by intro e; rw [e] at hj; simp at hj)
          obtain ⟨d0, d1, d2⟩ := on_cells HX7.out.hv hj
          rw [hXf] at d0
          rw [hz'] at hmi h2
          have HAT := Lib.hid h2
          have HZ := Lib.hid hz'
          have hsub : IntKind.i64.wrap (((x + t : Nat) : Int) - (x : Int)) = (t : Int) := by rw [show ((x + t : Nat) : Int) - (x : Int) = t by omega]; exact IntWalk.i64_in _ (by omega)
          have hsub2 : ((x + t : Nat) : Int) - (x : Int) = (t : Int) := by omega
          have z0 : (0 : Int) ≤ ((x + t : Nat) : Int) := by omega
          have z1 : ((x + t : Nat) : Int) < 1024 := by omega
          have t0 : (0 : Int) ≤ t := by omega
          have t1 : (t : Int) < 8 := by omega
          have j9 : decide ((j : Int) < 0) = false := by simp
          have t9 : IntKind.i64.wrap (t : Int) = t := IntWalk.i64_in _ (by omega)
          have j0 : (0 : Int) ≤ j := by omega
          have j1 : (j : Int) < X.length := by omega
          have fz : wr.frozen? ⟨gm, x + t, none⟩ = false := HO7.out.frozen _
          obtain ⟨z, hzz⟩ : ∃ z, x + t = z := ⟨_, rfl⟩
          rw [hzz] at hmi HAT hsub hsub2 z0 z1 fz c8 hxt
          have HZZ := Lib.hid hzz
          clear hmem hzt hbt hbt' hz' h2 h1 h1' hfd hX1 hX2 hz he hLk hXf hXb hcL hzz hbo d2
          go_wp2_with (go_at_call 17; refine (at_any w.heap.size q _ X T _ _ HX7.out).mono ?_; rw [HAT.out]; rintro e w8 ⟨rfl, rfl⟩)
          go_quiet (fail)
          have HS8 : Hid (InI w6 ((wr.drewN nq).setCell ⟨gm, z, none⟩ (.bool true)) w.heap.size gm Lk M (ii + 1)) := by
            have hs := OwnL.set (j := 0) (x := true) (u := .bool true) (HO7.out.keep (Keep.drewN (Keep.refl (fun _ => False) wr) nq) (fun _ _ => id)) (i := z) (by rw [HML7.out]; omega) (by decide) rfl
            refine ⟨MT2.set z true, by simpa [boE] using hs, by rw [List.length_set]; exact HML7.out, fun f hf h => ?_, (HK7.out.drewN nq).setCell (fun _ => rfl) _⟩
            by_cases e : f = z
            · right
              subst e
              rw [List.take_succ_eq_append_getElem hil, HZ.out, HZZ.out]
              exact List.mem_append_right _ (List.mem_singleton.mpr rfl)
            · have h' : MT2.getD f false = true := by
                rw [List.getD_eq_getElem?_getD, List.getElem?_set_ne (fun h => e h.symm)] at h
                rw [List.getD_eq_getElem?_getD]; exact h
              rcases HMT7.out f hf h' with h2 | h2
              · exact .inl h2
              · right
                rw [List.take_succ_eq_append_getElem hil]
                exact List.mem_append_left _ h2
          clear c8 hmi c7 c9 d0 d1 hsub hsub2 t9 j9 HX7
          have hmi := in_cell (HM7.out.keep (Keep.drewN (Keep.refl (fun _ => False) wr) nq) (fun _ _ => id)) hil
          rw [HZ.out, HZZ.out] at hmi
          have c8 := bo_at (HO7.out.keep (Keep.drewN (Keep.refl (fun _ => False) wr) nq) (fun _ _ => id)) HML7.out hxt
          have fz8 : (wr.drewN nq).frozen? ⟨gm, z, none⟩ = false := fz
          go_wp2
          go_roundw
          case rel => exact ⟨ii + 1, by omega, by go_num, by go_num, HS8.out⟩
          case measure => simp [intOf]; omega
        · obtain rfl : ii = M.length := by omega
          have HSn : Hid (SpI w wr p q gm (.slice aX X.length capX) L Q X T (kk + 1) (nn + M.length)) := by
            have hpr := pcs_rmv hk'
            rw [HB.out] at hpr
            have hpn := HS.out.pn
            obtain ⟨i', hi', hcp⟩ : ∃ i', ∃ hi' : i' < Xk.length, Xk[i'].cp = Lk[k'] := by
              have h1 := HI.out.pm.mem_iff.mp (List.getElem_mem hk')
              obtain ⟨y, hy, e⟩ := List.mem_map.mp h1
              obtain ⟨i', hi', rfl⟩ := List.getElem_of_mem hy
              exact ⟨i', hi', e⟩
            have hnd := HI.out.qn
            rw [List.nodup_cons] at hnd
            have hIv := HI.out.drop hk' hi' hcp (Q' := Q.drop (kk + 1)) (Int.le_refl T) hnd.2 (fun g => by
              rw [HFX.out, List.mem_cons]
              constructor
              · intro hg; exact ⟨.inr hg, fun e => hnd.1 (e ▸ hg)⟩
              · rintro ⟨h | h, h2⟩
                · exact absurd h h2
                · exact h)
            refine ⟨v6, u6, rmv Lk k', rmv Xk i', MT2, HC6.out.keep HK7.out ?_ ?_ ?_, hIv, HX6.out.keep HK7.out (by have := HGX.out.1; omega) (fun z hz e => by have := HGX.out.2.1 z hz; omega) (fun z hz e => by have := HGX.out.2.2 z hz; omega), fun c hc => HS.out.sb c ((mem_rmv HI.out.so hk' c).mp hc).1, HO7.out, HML7.out, ?_, ?_, HS.out.pw, ?_⟩
            · intro e
              obtain ⟨c2, h2⟩ := own_typ HO6'.out (x := gm) rfl
              exact typ_ne HC6.out.hp h2 (by decide) e
            · intro z hz e
              obtain ⟨c1, h1⟩ := own_typ HC6.out.hv hz
              obtain ⟨c2, h2⟩ := own_typ HO6'.out (x := gm) rfl
              exact typ_ne h1 h2 (by decide) e
            · intro z hz e
              obtain ⟨c1, h1⟩ := own_typ HC6.out.hu hz
              obtain ⟨c2, h2⟩ := own_typ HO6'.out (x := gm) rfl
              exact typ_ne h1 h2 (by decide) e
            · intro f hf h c hc
              have hc2 := (mem_rmv HI.out.so hk' c).mp hc
              rcases HMT7.out f hf h with h3 | h3
              · exact h3 c hc2.1
              · rw [List.take_length, ← HM.out] at h3
                obtain ⟨t, ht, e, _⟩ := (lostN_mem _ _ _ _).mp h3
                rw [HFX.out] at hc2
                intro e2
                exact hc2.2 (by rw [e2]; omega)
            · rw [HML.out]; omega
            · exact Keep.fresh (((HS.out.kp.mono (T := fun z => w.heap.size ≤ z) (fun _ _ h => h.elim)).trans (HK56.out.mono (fun z _ e => by rw [e]; exact HS.out.pw))).trans (HK7.out.mono (fun z _ e => by rw [e]; exact (HO6'.out.lt gm rfl).1))) (fun _ h => h) (Nat.le_refl _)
          have hsum : nn + M.length ≤ 640 := by
            have h1 := HSn.out
            obtain ⟨v9, u9, L9, X9, M9, h9⟩ := h1
            have := h9.pn
            have := pcs_le L
            omega
          clear hnn
          go_wp2
          go_roundw
          case rel => exact ⟨kk + 1, nn + M.length, by omega, by go_num, rfl, hsum, HSn.out⟩
          case measure => simp [intOf]; omega
    · obtain rfl : kk = Q.length := by omega
      have hd0 : Q.drop Q.length = [] := List.drop_length
      have HC0 : Hid (RepC wr w.heap.size p v5 u5 Lk []) := by have h := HS.out.rc; rw [hd0] at h; exact h
      have HI0 : Hid (Inv Lk [] Xk T) := by have h := HS.out.iv; rw [hd0] at h; exact h
      have HP0 : Hid (nn = pcs L) := by
        have h := HS.out.pn
        rw [pcs_zero (fun c hc => by
          by_cases e : c.b = 0
          · exact e
          · exact absurd ((HI0.out.qm c.f).mpr ⟨c, hc, rfl, e⟩) (by simp))] at h
        unfold Hid; omega
      clear hd0
      go_wp2_with fail
      refine (next_empty w.heap.size p v5 u5 Lk _ HC0.out).mono ?_
      unfold cpV
      rintro e w5 ⟨rfl, hk5⟩
      have HK5 : Hid (Keep (fun _ => False) wr (w5.alloc (.cells #[.int .i64 0, .int .u8 0] 39))) := hk5.alloc _
      clear hk5 e3
      go_wp2_with fail
      generalize w5.alloc (.cells #[.int .i64 0, .int .u8 0] 39) = w6 at HK5 ⊢
      have HX6 := Lib.hid (HS.out.rx.keep0 HK5.out)
      have HC6 := Lib.hid (HC0.out.keep0 HK5.out)
      have HK6 := Lib.hid (HS.out.kp.trans HK5.out)
      have hpx := pcX_le X
      go_loopw [15, 16] (fun m i w7 => ∃ k : Nat, k ≤ X.length ∧ i = .int .i64 k ∧ m = .int .i64 (pcX X k : Nat) ∧ Keep (fun _ => False) w6 w7) (fun _ i _ => X.length - (intOf i).toNat)
      case atStart => exact ⟨0, by omega, rfl, rfl, Keep.refl _ _⟩
      case round =>
        obtain ⟨k, hk, rfl, rfl, hk7⟩ := hrel
        have HK7 := Lib.hid hk7
        have hpk := hpx k
        clear hk7 hpx
        have HX7 := Lib.hid (HX6.out.keep0 HK7.out)
        have e3 := HX7.out.c0
        by_cases hkl : k < X.length
        · obtain ⟨gX, rfl⟩ := HAGX.out (by intro e; rw [e] at hkl; simp at hkl)
          obtain ⟨d0, d1, d2⟩ := on_cells HX7.out.hv hkl
          have hbo := HX7.out.hb _ (List.getElem_mem hkl)
          unfold On.v at hbo
          have HBO := Lib.hid hbo
          have HPX : Hid (pcX X (k + 1) = pcX X k + pcN X[k].b 8) := by
            unfold Hid; simp only [pcX]; rw [show X.getD k ⟨0, 0, 0, 0, 0⟩ = X[k] by simp [hkl]]
          have hp8 := pcN_le X[k].b 8
          clear hbo
          go_wp2_with fail
          refine (many_any _ _ _ _ _ _ _ HBO.out).mono ?_
          rintro e w8 ⟨rfl, hk8⟩
          go_wp2
          go_roundw
          case rel => exact ⟨k + 1, by omega, by go_num, by rw [HPX.out]; go_num, HK7.out.trans hk8⟩
          case measure => simp [intOf]; omega
        · obtain rfl : k = X.length := by omega
          have HPX : Hid (pcX X X.length = pcs L) := by
            unfold Hid; rw [pcX_pcs X _ (Nat.le_refl _), List.take_length]; exact (pcs_perm HV.out.iv.pm).symm
          have HL0 : Hid (lostC Lk Lk.length = 0) := by
            unfold Hid; rw [lostC_pcs Lk _ (Nat.le_refl _), List.take_length]
            exact pcs_zero (fun c hc => by
              by_cases e : c.b = 0
              · exact e
              · exact absurd ((HI0.out.qm c.f).mpr ⟨c, hc, rfl, e⟩) (by simp))
          rw [HPX.out, ← HP0.out]
          have HC7 := Lib.hid (HC6.out.keep0 HK7.out)
          clear hpk
          go_wp2_with fail
          refine (lost_all w.heap.size p v5 u5 Lk [] _ HC7.out (fun y hy => by have := HI0.out.fr y hy; omega)).mono ?_
          rw [HL0.out]
          rintro e w8 ⟨rfl, hk8⟩
          have HC8 := Lib.hid (HC7.out.keep0 hk8)
          have HK8 := Lib.hid (HK7.out.trans hk8)
          clear hk8
          go_wp2_with fail
          refine (queue_any w.heap.size p v5 u5 Lk [] _ HC8.out (fun f hf => by cases hf)).mono ?_
          rintro e w9 ⟨v9, rfl, hO9, hk9⟩
          obtain ⟨a9, c9, rfl, -⟩ := hO9.slice
          go_wp2
          go_ret
          exact ⟨rfl, (HK6.out.trans (HK8.out.trans hk9)).below⟩

end Go.Proofs.Ytdomdjfecnbenaa
