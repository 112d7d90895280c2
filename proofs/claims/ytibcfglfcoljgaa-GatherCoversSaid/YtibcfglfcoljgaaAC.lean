/- Gather: the reference's object; has, Pages. -/
import Derived.Test.YtibcfglfcoljgaaAA
import Derived.Deep.DeepCutAuto
set_option linter.unusedVariables false
set_option linter.unusedSimpArgs false
namespace Go.Proofs.Ytibcfglfcoljgaa
open Go.RowKit Go.Own

structure Sp where
  s : Int
  p : Int
  deriving DecidableEq
def spE : Enc Sp where
  c := fun x => [.int .i64 x.s, .int .i64 x.p]
  k := 2
  hk := by decide
  len := fun _ => rfl
  one := fun x u hu => by simp at hu; rcases hu with rfl | rfl <;> rfl
theorem info42 : (Try.prog.info? 42).map (fun i => (i.zero, i.size, i.bytes)) = some (some (.agg #[.int .i64 0, .int .i64 0]), 2, 16) := by kernel_rfl
theorem et35 : ET Try.prog 35 42 (.agg #[.int .i64 0, .int .i64 0]) 2 16 := ⟨Try.underlying35, info42, rfl, by decide⟩

/-- The reference's object at q. -/
structure RepX (w : World) (B q : Nat) (m : Int) (v u : Value) (P : List Sp) (Q : List Bk) (r : Int) : Prop where
  hp : w.heap[q]? = some (.cells #[.int .i64 m, v, u, .int .i64 r] 37 (0, 0))
  hv : OwnL spE w B 42 v P
  hu : OwnL bkE w B 48 u Q
  hl : P.length ≤ 5000
  hq : Q.length ≤ 200
  hr : 0 ≤ r ∧ r ≤ 1000
section
variable {w : World} {B q : Nat} {m : Int} {v u : Value} {P : List Sp} {Q : List Bk} {r : Int} (h : RepX w B q m v u P Q r)
include h
theorem RepX.cs : w.cell? ⟨q, 0, none⟩ = some (.int .i64 m) ∧ w.cell? ⟨q, 1, none⟩ = some v ∧ w.cell? ⟨q, 2, none⟩ = some u ∧ w.cell? ⟨q, 3, none⟩ = some (.int .i64 r) := by simp [cell_block h.hp]
theorem RepX.keep {S : Nat → Prop} {w' : World} (k : Keep S w w') (hp : ¬ S q) (hv : ∀ x, v.ownBlock = some x → ¬ S x) (hu : ∀ x, u.ownBlock = some x → ¬ S x) : RepX w' B q m v u P Q r :=
  ⟨(k.block q (block_lt h.hp) hp).trans h.hp, h.hv.keep k hv, h.hu.keep k hu, h.hl, h.hq, h.hr⟩
theorem RepX.keep0 {w' : World} (k : Keep (fun _ => False) w w') : RepX w' B q m v u P Q r := h.keep k id (fun _ _ => id) (fun _ _ => id)
theorem RepX.nv : ∀ x, v.ownBlock = some x → x ≠ q := fun x hx => by
  obtain ⟨c, hc⟩ := own_typ h.hv hx
  exact typ_ne hc h.hp (by decide)
theorem RepX.nu : ∀ x, u.ownBlock = some x → x ≠ q := fun x hx => by
  obtain ⟨c, hc⟩ := own_typ h.hu hx
  exact typ_ne hc h.hp (by decide)
theorem RepX.vu : ∀ x, v.ownBlock = some x → u.ownBlock ≠ some x := fun x hx e => by
  obtain ⟨c, hc⟩ := own_typ h.hv hx
  obtain ⟨c', hc'⟩ := own_typ h.hu e
  exact typ_ne hc hc' (by decide) rfl
end
theorem sp_cells {w : World} {B : Nat} {g n cap i : Nat} {L : List Sp} (h : OwnL spE w B 42 (.slice (some ⟨g, 0, none⟩) n cap) L) (hi : i < L.length) :
    w.cell? ⟨g, i * 2, none⟩ = some (.int .i64 L[i].s) ∧ w.cell? ⟨g, i * 2 + 1, none⟩ = some (.int .i64 L[i].p) :=
  ⟨OwnL.cell (j := 0) h hi (by decide), OwnL.cell (j := 1) h hi (by decide)⟩

theorem _root_.Go.Own.Keep.on {S T : Nat → Prop} {a b c : World} (h : Keep S a b) (k : Keep T b c) (hT : ∀ z, z < a.heap.size → T z → S z) : Keep S a c :=
  ⟨k.os.trans h.os, k.tape.trans h.tape, k.output.trans h.output, Nat.le_trans h.size k.size, fun z hz hs => (k.block z (Nat.lt_of_lt_of_le hz h.size) (fun e => hs (hT z hz e))).trans (h.block z hz hs)⟩

set_option maxHeartbeats 1000000 in
theorem has_any (B q : Nat) (m : Int) (v u : Value) (P : List Sp) (Q : List Bk) (r : Int) (s y : Int) (w : World) (hR : RepX w B q m v u P Q r) :
    Calls Try.prog 30 #[.pointer (some ⟨q, 0, none⟩), .int .i64 s, .int .i64 y] w fun e w' => e = .returned (.bool (decide ((⟨s, y⟩ : Sp) ∈ P))) ∧ w' = w := by
  obtain ⟨c0, c1, c2, c3⟩ := hR.cs
  have hll := hR.hl
  obtain ⟨a, c, rfl, hag⟩ := hR.hv.slice
  have HAG := Lib.hid hag
  clear hag
  go_enter Try.func30, Try.ntmps30
  go_wp2
  go_loopw [7] (fun i wr => ∃ k : Nat, k ≤ P.length ∧ i = .int .i64 k ∧ (∀ j (h : j < P.length), j < k → P[j] ≠ ⟨s, y⟩) ∧ wr = w) (fun i _ => P.length - (intOf i).toNat)
  case atStart => exact ⟨0, by omega, rfl, fun j h h2 => by omega, rfl⟩
  case round =>
    obtain ⟨k, hk, rfl, hno, rfl⟩ := hrel
    have HN := Lib.hid hno
    clear hno
    by_cases hlt : k < P.length
    · obtain ⟨g, rfl⟩ := HAG.out (by intro e; rw [e] at hlt; simp at hlt)
      obtain ⟨d0, d1⟩ := sp_cells hR.hv hlt
      have HM := Lib.hid (List.getElem_mem hlt)
      have HE : Hid (∀ z, P[k] = z → z ≠ ⟨s, y⟩ → ∀ j (h : j < P.length), j < k + 1 → P[j] ≠ ⟨s, y⟩) := fun z hz hne j hj hjk => by
        by_cases e : j = k
        · subst e; rw [hz]; exact hne
        · exact HN.out j hj (by omega)
      obtain ⟨x, hx⟩ : ∃ x, P[k] = x := ⟨_, rfl⟩
      have HX := Lib.hid hx
      rw [hx] at d0 d1 HM
      clear hx
      by_cases e1 : x.s = s
      · have t1 : (x.s == s) = true := by simpa using e1
        by_cases e2 : x.p = y
        · have t2 : (x.p == y) = true := by simpa using e2
          have HD : Hid (decide ((⟨s, y⟩ : Sp) ∈ P) = true) := by
            unfold Hid; rw [decide_eq_true_eq, ← e1, ← e2]; exact HM.out
          clear e1 e2
          go_wp2
          go_ret
          exact ⟨ret_bool HD.out.symm, rfl⟩
        · have t2 : (x.p == y) = false := by simpa using e2
          have HD := Lib.hid (HE.out x HX.out (fun h => e2 (by rw [h])))
          clear e1 e2
          go_wp2
          go_roundw
          case rel => exact ⟨k + 1, by omega, by go_num, HD.out, trivial⟩
          case measure => simp [intOf]; omega
      · have t1 : (x.s == s) = false := by simpa using e1
        have HD := Lib.hid (HE.out x HX.out (fun h => e1 (by rw [h])))
        clear e1
        go_wp2
        go_roundw
        case rel => exact ⟨k + 1, by omega, by go_num, HD.out, trivial⟩
        case measure => simp [intOf]; omega
    · have HD : Hid (decide ((⟨s, y⟩ : Sp) ∈ P) = false) := by
        unfold Hid; rw [decide_eq_false_iff_not]
        intro h
        obtain ⟨j, hj, e⟩ := List.getElem_of_mem h
        exact HN.out j hj (by omega) e
      go_wp2
      go_ret
      exact ⟨ret_bool HD.out.symm, rfl⟩

set_option maxHeartbeats 1000000 in
theorem pagesX_err (q : Nat) (s y n : Int) (h : ¬ fine ⟨s, y, n⟩) (w : World) :
    Calls Try.prog 26 #[.pointer (some ⟨q, 0, none⟩), .int .i64 s, .int .i64 y, .int .i64 n] w fun e w' => e = .returned (.int .i64 3) ∧ Keep (fun _ => False) w w' := by
  unfold fine at h
  simp only at h
  by_cases h1 : s < 0
  · clear h
    go_enter Try.func26, Try.ntmps26
    go_wp2
    go_ret
    exact ⟨rfl, (by (repeat (first | exact Keep.refl _ _ | exact Keep.refl _ _ | refine Keep.drew ?_ | refine Keep.drewN ?_ _ | refine Keep.alloc ?_ _ | refine Keep.setNew ?_ (by omega) _)); done)⟩
  by_cases h2 : y < 0
  · clear h
    go_enter Try.func26, Try.ntmps26
    go_wp2
    go_ret
    exact ⟨rfl, (by (repeat (first | exact Keep.refl _ _ | exact Keep.refl _ _ | refine Keep.drew ?_ | refine Keep.drewN ?_ _ | refine Keep.alloc ?_ _ | refine Keep.setNew ?_ (by omega) _)); done)⟩
  by_cases h3 : 4096 ≤ y
  · have h3' : 4095 < y := by omega
    clear h
    go_enter Try.func26, Try.ntmps26
    go_wp2
    go_ret
    exact ⟨rfl, (by (repeat (first | exact Keep.refl _ _ | exact Keep.refl _ _ | refine Keep.drew ?_ | refine Keep.drewN ?_ _ | refine Keep.alloc ?_ _ | refine Keep.setNew ?_ (by omega) _)); done)⟩
  by_cases h4 : n < 1
  · clear h
    go_enter Try.func26, Try.ntmps26
    go_wp2
    go_ret
    exact ⟨rfl, (by (repeat (first | exact Keep.refl _ _ | exact Keep.refl _ _ | refine Keep.drew ?_ | refine Keep.drewN ?_ _ | refine Keep.alloc ?_ _ | refine Keep.setNew ?_ (by omega) _)); done)⟩
  have h5 : 4096 - y < n := by omega
  have h6 : y ≤ 4095 := by omega
  clear h
  go_enter Try.func26, Try.ntmps26
  go_wp2
  go_ret
  exact ⟨rfl, (by (repeat (first | exact Keep.refl _ _ | exact Keep.refl _ _ | refine Keep.drew ?_ | refine Keep.drewN ?_ _ | refine Keep.alloc ?_ _ | refine Keep.setNew ?_ (by omega) _)); done)⟩

/-- What the reference's Pages has done behind k pages. -/
structure PX (w w' : World) (B q : Nat) (m : Int) (v v' u : Value) (P P' : List Sp) (Q : List Bk) (r s y : Int) (k : Nat) : Prop where
  rep : RepX w' B q m v' u P' Q r
  nd : P'.Nodup
  mem : ∀ x, x ∈ P' ↔ x ∈ P ∨ (x.s = s ∧ y ≤ x.p ∧ x.p < y + k)
  len : P'.length ≤ P.length + k
  blk : ∀ x, v'.ownBlock = some x → v.ownBlock = some x ∨ w.heap.size ≤ x
  keep : Keep (fun z => z = q ∨ v.ownBlock = some z) w w'

theorem PX.skip {w w' : World} {B q : Nat} {m : Int} {v v' u : Value} {P P' : List Sp} {Q : List Bk} {r s y : Int} {k : Nat} (h : PX w w' B q m v v' u P P' Q r s y k) (hm : (⟨s, y + k⟩ : Sp) ∈ P') : PX w w' B q m v v' u P P' Q r s y (k + 1) := by
  refine ⟨h.rep, h.nd, fun x => ?_, by have := h.len; omega, h.blk, h.keep⟩
  have h1 := h.mem x
  rw [h1]
  constructor
  · rintro (h2 | ⟨h2, h3, h4⟩)
    · exact .inl h2
    · exact .inr ⟨h2, h3, by omega⟩
  · rintro (h2 | ⟨h2, h3, h4⟩)
    · exact .inl h2
    · by_cases e : x.p = y + k
      · have : x = ⟨s, y + k⟩ := by cases x; simp only at h2 e; rw [h2, e]
        rw [← h1, this]; exact hm
      · exact .inr ⟨h2, h3, by omega⟩
theorem PX.more {w w' w6 : World} {B q : Nat} {m : Int} {v v' u : Value} {a6 : Option Addr} {l6 c6 : Nat} {P P' : List Sp} {Q : List Bk} {r s y : Int} {k : Nat} (h : PX w w' B q m v v' u P P' Q r s y k) (hm : ¬ (⟨s, y + k⟩ : Sp) ∈ P') (hl : P.length + k < 5000)
    (K : Keep (fun z => v'.ownBlock = some z) w' w6) (ho : OwnL spE w6 B 42 (.slice a6 l6 c6) (P' ++ [⟨s, y + k⟩])) (hf : ∀ x, (Value.slice a6 l6 c6).ownBlock = some x → v'.ownBlock = some x ∨ w'.heap.size ≤ x) :
    PX w (w6.setCell ⟨q, 1, none⟩ (.slice a6 l6 c6)) B q m v (.slice a6 l6 c6) u P (P' ++ [⟨s, y + k⟩]) Q r s y (k + 1) := by
  have hR := h.rep
  have hq6 : w6.heap[q]? = some (.cells #[.int .i64 m, v', u, .int .i64 r] 37 (0, 0)) := (K.block q (block_lt hR.hp) (fun e => hR.nv q e rfl)).trans hR.hp
  have hu6 := hR.hu.keep K (fun x hx e => hR.vu x e hx)
  have KP := (Keep.refl (fun z => z = q) w6).setCell (p := ⟨q, 1, none⟩) (fun _ => rfl) (.slice a6 l6 c6)
  have hn : ∀ {e : TypeId} {α : Type} {E : Enc α} {z : Value} {X : List α}, OwnL E w6 B e z X → e ≠ 37 → ∀ x, z.ownBlock = some x → x ≠ q := fun hz he x hx => by
    obtain ⟨c, hc⟩ := own_typ hz hx
    exact typ_ne hc hq6 he
  refine ⟨⟨?_, ho.keep KP (hn ho (by decide)), hu6.keep KP (hn hu6 (by decide)), by have := h.len; simp; omega, hR.hq, hR.hr⟩, ?_, fun x => ?_, by have := h.len; simp; omega, fun x hx => ?_, ?_⟩
  · rw [heap_setCell_eq hq6]; rfl
  · rw [List.nodup_append]
    exact ⟨h.nd, by simp, fun a ha b hb => by simp at hb; subst hb; exact fun e => hm (e ▸ ha)⟩
  · rw [List.mem_append, h.mem x, List.mem_singleton]
    constructor
    · rintro ((h2 | ⟨h2, h3, h4⟩) | h2)
      · exact .inl h2
      · exact .inr ⟨h2, h3, by omega⟩
      · subst h2; exact .inr ⟨rfl, by simp only; omega, by simp only; omega⟩
    · rintro (h2 | ⟨h2, h3, h4⟩)
      · exact .inl (.inl h2)
      · by_cases e : x.p = y + k
        · right; cases x; simp only at h2 e; rw [h2, e]
        · exact .inl (.inr ⟨h2, h3, by omega⟩)
  · rcases hf x hx with h' | h'
    · exact h.blk x h'
    · have := h.keep.size; right; omega
  · exact (h.keep.on K fun z hz e => (h.blk z e).elim .inr (fun h => by omega)).on KP fun z hz e => .inl e

set_option maxRecDepth 100000 in
set_option maxHeartbeats 2000000 in
theorem pagesX_any (B q : Nat) (m : Int) (v u : Value) (P : List Sp) (Q : List Bk) (r : Int) (s y n : Int) (hf : fine ⟨s, y, n⟩) (hnd : P.Nodup) (hll : P.length + n.toNat < 5000) (w : World) (hB : B ≤ w.heap.size) (hR : RepX w B q m v u P Q r) :
    Calls Try.prog 26 #[.pointer (some ⟨q, 0, none⟩), .int .i64 s, .int .i64 y, .int .i64 n] w fun e w' => e = .returned (.int .i64 0) ∧ ∃ v' P', PX w w' B q m v v' u P P' Q r s y n.toNat := by
  obtain ⟨f1, f2, f3, f4⟩ := hf
  simp only at f1 f2 f3 f4
  have f5 : n ≤ 4096 - y := by omega
  have f6 : y ≤ 4095 := by omega
  have HP0 : Hid (PX w w B q m v v u P P Q r s y 0) := ⟨hR, hnd, fun x => ⟨.inl, fun h => h.elim id (fun h => by omega)⟩, by omega, fun x h => .inl h, Keep.refl _ _⟩
  clear hR hnd
  go_enter Try.func26, Try.ntmps26
  go_wp2
  go_loopw [9] (fun i wr => ∃ k : Nat, (k : Int) ≤ n ∧ (∃ t : Int, t = y + k ∧ i = .int .i64 t) ∧ ∃ v' P', PX w wr B q m v v' u P P' Q r s y k) (fun i _ => (y + n - intOf i).toNat)
  case atStart => exact ⟨0, by omega, ⟨y, by omega, rfl⟩, v, P, HP0.out⟩
  case round =>
    obtain ⟨k, hk, ⟨t, ht, rfl⟩, v', P', hP⟩ := hrel
    have HP := Lib.hid hP
    have HT := Lib.hid ht
    clear hP
    have ht2 : t ≤ 4096 := by omega
    have ht3 : 0 ≤ t := by omega
    have HLE : Hid (P'.length ≤ 4999) := by unfold Hid; have := HP.out.len; omega
    by_cases hlt : t < y + n
    · have hkn : (k : Int) + 1 ≤ n := by omega
      clear ht
      by_cases hm : (⟨s, t⟩ : Sp) ∈ P'
      · have HM := Lib.hid hm
        clear hm
        go_wp2_with (go_at_call 30; refine (has_any B q m v' u P' Q r s t _ HP.out.rep).mono ?_; rw [decide_eq_true HM.out]; rintro e w5 ⟨rfl, rfl⟩)
        go_roundw
        case rel => exact ⟨k + 1, by omega, ⟨t + 1, by have := HT.out; omega, by go_num⟩, v', P', HP.out.skip (by rw [← HT.out]; exact HM.out)⟩
        case measure => simp [intOf]; omega
      · have HM := Lib.hid hm
        clear hm
        obtain ⟨av, cv, hv', -⟩ := HP.out.rep.hv.slice
        subst hv'
        have c1 := HP.out.rep.cs.2.1
        have fz : wr.frozen? ⟨q, 1, none⟩ = false := frozen_block HP.out.rep.hp
        have hql := block_lt HP.out.rep.hp
        go_wp2_with (first | (go_at_call 30; refine (has_any B q m _ u P' Q r s t _ HP.out.rep).mono ?_; rw [decide_eq_false HM.out]; rintro e w5 ⟨rfl, hw5⟩; rw [hw5]; clear hw5) | (at_builtin; go_loud (refine wpl_appF et35 rfl (.tmp 47) (.tmp 51) rfl B (.slice av P'.length cv) P'.length (spE.cs P') rfl (OwnL.keep HP.out.rep.hv (Keep.alloc (Keep.refl (fun _ => False) _) _) (fun _ _ => id)) ⟨wr.heap.size, 0, none⟩ 1 1 (spE.c ⟨s, t⟩) rfl rfl (new_cells (heap_alloc_new wr _)) (spE.one _) (by have := HLE.out; unfold maxLen; omega) (by have := HLE.out; omega) (by have := HP.out.keep.size; simp; omega) ?_; intro v6 w6 hown6 hgrow6 hf6; obtain ⟨a6, l6, c6, hv6⟩ := own_slice hown6; subst hv6; have HK6 : Hid (Keep (fun z => (Value.slice av P'.length cv).ownBlock = some z) wr w6) := Keep.grown (Keep.alloc (Keep.refl _ wr) _) hgrow6 (fun z h1 h2 => h1); have HN6 := Lib.hid (HP.out.more (by rw [← HT.out]; exact HM.out) (by omega) HK6.out (by rw [← HT.out]; unfold OwnL; rw [List.length_append, spE.cs_append, spE.cs_one]; exact hown6) (fun z hz => (hf6 z hz).imp id (fun h => by simp at h; omega))); obtain ⟨e1, fz6⟩ := keepS2 HK6.out hql (fun e => HP.out.rep.nv q e rfl) c1 fz; clear hown6 hgrow6 hf6)))
        go_roundw
        case rel => exact ⟨k + 1, by omega, ⟨t + 1, by have := HT.out; omega, by go_num⟩, _, _, HN6.out⟩
        case measure => simp [intOf]; omega
    · have hkn : (k : Int) = n := by omega
      have HK : Hid (n.toNat = k) := by unfold Hid; omega
      clear ht
      go_wp2
      go_ret
      exact ⟨rfl, v', P', by rw [HK.out]; exact HP.out⟩

end Go.Proofs.Ytibcfglfcoljgaa
