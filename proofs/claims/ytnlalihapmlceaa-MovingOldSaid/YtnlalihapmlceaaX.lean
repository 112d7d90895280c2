/- Moves: Old. -/
import Derived.Test.YtnlalihapmlceaaW
set_option linter.unusedVariables false
set_option linter.unusedSimpArgs false
namespace Go.Proofs.Ytnlalihapmlceaa
open Go.RowKit Go.Own

def inE : Enc Int where
  c := fun x => [.int .i64 x]
  k := 1
  hk := by decide
  len := fun _ => rfl
  one := fun x u hu => by simp at hu; subst hu; rfl

theorem stable_any (B g cap : Nat) (D : List Mv) (w : World) (hD : OwnL mvE w B 31 (.slice (some ⟨g, 0, none⟩) D.length cap) D) (hl : D.length ≤ 19) (ha : ∀ x, x ∈ D → 0 ≤ x.a ∧ x.a ≤ 1000000) :
    Calls Try.prog 41 #[.slice (some ⟨g, 0, none⟩) D.length cap, .int .i64 D.length, .func (.func 39) #[] #[]] w fun e w' => e = .returned (.tuple #[]) ∧ ∃ D', D'.Perm D ∧ Sd D' D.length ∧ OwnL mvE w' B 31 (.slice (some ⟨g, 0, none⟩) D.length cap) D' ∧ Keep (fun z => z = g) w w' := by
  have hl' : (D.length : Int) ≤ 19 := by omega
  go_enter Try.func41, Try.ntmps41
  go_wp2
  refine wp_loop_once ?_
  go_wp2_with (go_at_call 42; go_loud (refine (ins_any B g cap D _ hD (by omega) ha).mono ?_; rintro e w1 ⟨rfl, hP⟩; have HP := Lib.hid hP; clear hP))
  refine wp_loop_once ?_
  go_wp2
  go_end0
  exact ⟨rfl, HP.out⟩

theorem sort_any (B : Nat) (v : Value) (D : List Mv) (w : World) (hD : OwnL mvE w B 31 v D) (hl : D.length ≤ 19) (ha : ∀ x, x ∈ D → 0 ≤ x.a ∧ x.a ≤ 1000000) :
    Calls Try.prog 38 #[v, .func (.func 39) #[] #[]] w fun e w' => e = .returned (.tuple #[]) ∧ ∃ D', D'.Perm D ∧ Sd D' D.length ∧ OwnL mvE w' B 31 v D' ∧ Keep (fun z => v.ownBlock = some z) w w' := by
  rcases hD.any with ⟨rfl, rfl⟩ | ⟨g, cap, rfl, hBg, hcap, hmax, hgl⟩
  · refine (sort_none _ w).mono ?_
    rintro e w1 ⟨rfl, rfl⟩
    exact ⟨rfl, [], List.Perm.refl _, fun a b h1 h2 => by simp at h2, hD, Keep.refl _ _⟩
  · go_enter Try.func38, Try.ntmps38
    go_wp2_with (go_at_call 41; go_loud (refine (stable_any B g cap D _ hD hl ha).mono ?_; rintro e w1 ⟨rfl, hP⟩; have HP := Lib.hid hP; clear hP))
    go_end0
    obtain ⟨D', h1, h2, h3, h4⟩ := HP.out
    exact ⟨rfl, D', h1, h2, h3, h4.mono (fun z _ e => by rw [e]; rfl)⟩

def oldP (age : Int) (x : Mv) : Bool := decide (age ≤ x.a)

set_option maxHeartbeats 4000000 in
theorem old_any (B p : Nat) (v : Value) (most : Int) (L : List Mv) (age : Int) (w : World) (hR : RepM w B p v most L) (hl : L.length ≤ 19) (ha : ∀ x, x ∈ L → 0 ≤ x.a ∧ x.a ≤ 1000000) :
    Calls Try.prog 26 #[.pointer (some ⟨p, 0, none⟩), .int .i64 age] w fun e w' => ∃ v' D, e = .returned v' ∧ D.Perm (L.filter (oldP age)) ∧ Sd D D.length ∧ OwnL inE w' w.heap.size 3 v' (D.map Mv.f) ∧ Keep (fun _ => False) w w' := by
  go_enter Try.func26, Try.ntmps26
  go_wp2_with (go_at_call 14; go_loud (refine (all_any B p v most L _ hR).mono ?_; rintro e w1 ⟨v1, rfl, hO, hk1⟩; have HO := Lib.hid hO; have HK1 := Lib.hid hk1; obtain ⟨a1, c1, rfl, hag⟩ := hO.slice; have HAG := Lib.hid hag; clear hO hk1 hag))
  have hs1 := HK1.out.size
  go_loopw [5, 14] (fun o i wr => ∃ k : Nat, k ≤ L.length ∧ i = .int .i64 k ∧ ∃ o' : Value, o' = o ∧ OwnL mvE wr w1.heap.size 31 o' ((L.take k).filter (oldP age)) ∧ Keep (fun z => w1.heap.size ≤ z) w1 wr) (fun _ i _ => L.length - (intOf i).toNat)
  case atStart => exact ⟨0, by omega, rfl, _, rfl, OwnL.nil _ _ _, Keep.refl _ _⟩
  case round =>
    obtain ⟨k, hk, rfl, o, ho, hOo, hkeep⟩ := hrel
    subst ho
    have HOo := Lib.hid hOo
    have HK := Lib.hid hkeep
    have hs2 := hkeep.size
    have hfl : ((L.take k).filter (oldP age)).length ≤ L.length := Nat.le_trans (List.length_filter_le _ _) (by simp; omega)
    clear hOo hkeep
    have HV := Lib.hid (HO.out.keep HK.out (fun z hz e => by have := (HO.out.lt z hz).2; omega))
    by_cases hlt : k < L.length
    · obtain ⟨g1, hg1⟩ := HAG.out (by intro e; rw [e] at hlt; simp at hlt)
      subst hg1
      obtain ⟨c0, c1, c2, c3⟩ := mv_cells HV.out hlt
      have HT : Hid (L.take (k + 1) = L.take k ++ [L[k]]) := List.take_succ_eq_append_getElem hlt
      obtain ⟨x, hx⟩ : ∃ x, L[k] = x := ⟨_, rfl⟩
      rw [hx] at c0 c1 c2 c3 HT
      clear hx
      by_cases hx : age ≤ x.a
      · have HF : Hid ((L.take (k + 1)).filter (oldP age) = (L.take k).filter (oldP age) ++ [x]) := by
          unfold Hid; rw [HT.out, List.filter_append]; simp [oldP, hx]
        obtain ⟨ao, co, rfl, -⟩ := HOo.out.slice
        go_wp2_with (at_builtin; go_loud (refine wpl_app et36 rfl (.tmp 22) (.tmp 24) rfl w1.heap.size _ _ _ rfl (HOo.out.keep (S := fun _ => False) (by (repeat (first | exact Keep.refl _ _ | exact Keep.refl _ _ | refine Keep.drew ?_ | refine Keep.drewN ?_ _ | refine Keep.alloc ?_ _ | refine Keep.setNew ?_ (by omega) _)); done) (fun _ _ => id)) (.slice (some ⟨wr.heap.size + 1, 0, none⟩) 1 1) 1 [.int .i64 x.f, .int .i64 x.t, .int .i64 x.s, .int .i64 x.a] rfl (by refine Reads.new (e := 31) (z := (0, 0)) ?_ rfl 1; simp only [heap_alloc_at, heap_drewN, heap_drew, World.size_alloc, Nat.left_eq_add, Nat.add_eq_left, Nat.reduceEqDiff, reduceIte, Nat.succ_ne_self, Nat.add_left_cancel_iff]) (by simp [Value.oneCell']) (by unfold maxLen; omega) (by omega) (by simp; omega) ?_; intro v5 w5 hown5 hgrow5; have HK5 : Hid (Keep (fun z => w1.heap.size ≤ z) wr w5) := Keep.grown (by (repeat (first | exact Keep.refl _ _ | exact Keep.refl _ _ | refine Keep.drew ?_ | refine Keep.drewN ?_ _ | refine Keep.alloc ?_ _ | refine Keep.setNew ?_ (by omega) _)); done) hgrow5 (fun z h1 h2 => (HOo.out.lt z h1).1); have HO5 : Hid (OwnL mvE w5 w1.heap.size 31 v5 ((L.take (k + 1)).filter (oldP age))) := (by unfold Hid; rw [HF.out]; unfold OwnL; rw [List.length_append, mvE.cs_append, mvE.cs_one]; exact hown5); clear hown5 hgrow5))
        go_roundw
        case rel => exact ⟨k + 1, by omega, by go_num, _, rfl, HO5.out, HK.out.trans HK5.out⟩
        case measure => simp [intOf]; omega
      · have HF : Hid ((L.take (k + 1)).filter (oldP age) = (L.take k).filter (oldP age)) := by
          unfold Hid; rw [HT.out, List.filter_append]; simp [oldP, hx]
        go_wp2
        go_roundw
        case rel => exact ⟨k + 1, by omega, by go_num, _, rfl, by rw [HF.out]; exact HOo.out.keep (S := fun _ => False) (by (repeat (first | exact Keep.refl _ _ | exact Keep.refl _ _ | refine Keep.drew ?_ | refine Keep.drewN ?_ _ | refine Keep.alloc ?_ _ | refine Keep.setNew ?_ (by omega) _)); done) (fun _ _ => id), HK.out.alloc _⟩
        case measure => simp [intOf]; omega
    · have hkl : Hid ((L.take k).filter (oldP age) = L.filter (oldP age)) := by unfold Hid; rw [List.take_of_length_le (by omega)]
      have hb : ∀ x, x ∈ (L.take k).filter (oldP age) → 0 ≤ x.a ∧ x.a ≤ 1000000 := fun x hx => ha x (List.mem_of_mem_take (List.mem_filter.mp hx).1)
      go_wp2_with (go_at_call 38; go_loud (refine (sort_any w1.heap.size o _ _ HOo.out (by omega) hb).mono ?_; rintro e w2 ⟨rfl, D, hD1, hD2, hD3, hD4⟩; have HD1 := Lib.hid hD1; have HD2 := Lib.hid hD2; have HD3 := Lib.hid hD3; have HD4 := Lib.hid hD4; have hDl := hD1.length_eq; obtain ⟨ao, co, ho2, hag2⟩ := hD3.slice; subst ho2; have HAG2 := Lib.hid hag2; clear hD1 hD2 hD3 hD4 hag2))
      have hs3 := HD4.out.size
      have hDle : D.length ≤ 19 := by omega
      go_loopw [8, 31] (fun o i wr2 => ∃ q : Nat, q ≤ D.length ∧ i = .int .i64 q ∧ ∃ o' : Value, o' = o ∧ OwnL inE wr2 w2.heap.size 3 o' ((D.take q).map Mv.f) ∧ Keep (fun z => w2.heap.size ≤ z) w2 wr2) (fun _ i _ => D.length - (intOf i).toNat)
      case atStart => exact ⟨0, by omega, rfl, _, rfl, OwnL.nil _ _ _, Keep.refl _ _⟩
      case round =>
        obtain ⟨q, hq, rfl, o2, ho2, hO2, hkeep2⟩ := hrel
        subst ho2
        have HO2 := Lib.hid hO2
        have HK2 := Lib.hid hkeep2
        have hs4 := hkeep2.size
        have hml : ((D.take q).map Mv.f).length = q := by simp; omega
        clear hO2 hkeep2
        have HV2 := Lib.hid (HD3.out.keep HK2.out (fun z hz e => by have := (HD3.out.lt z hz).2; omega))
        by_cases hqt : q < D.length
        · obtain ⟨g2, hg2⟩ := HAG2.out (by intro e; rw [e] at hqt; simp at hqt)
          subst hg2
          obtain ⟨c0, c1, c2, c3⟩ := mv_cells HV2.out hqt
          have HT : Hid ((D.take (q + 1)).map Mv.f = (D.take q).map Mv.f ++ [D[q].f]) := by
            unfold Hid; rw [List.take_succ_eq_append_getElem hqt, List.map_append]; rfl
          obtain ⟨x, hx⟩ : ∃ x, D[q] = x := ⟨_, rfl⟩
          rw [hx] at c0 c1 c2 c3 HT
          clear hx
          obtain ⟨aq, cq, rfl, -⟩ := HO2.out.slice
          have hO2 := HO2.out
          unfold OwnL at hO2
          rw [hml] at hO2
          have HOW := Lib.hid hO2
          clear hO2
          rw [hml]
          go_wp2_with (at_builtin; go_loud (refine wpl_app et44 rfl (.tmp 35) (.tmp 38) rfl w2.heap.size _ _ _ rfl (Keep.own (S := fun _ => False) (by (repeat (first | exact Keep.refl _ _ | exact Keep.refl _ _ | refine Keep.drew ?_ | refine Keep.drewN ?_ _ | refine Keep.alloc ?_ _ | refine Keep.setNew ?_ (by omega) _)); done) HOW.out (fun _ _ => id)) (.slice (some ⟨wr.heap.size + 1, 0, none⟩) 1 1) 1 [.int .i64 x.f] rfl (by refine Reads.new (e := 3) (z := (0, 0)) ?_ rfl 1; simp only [heap_alloc_at, heap_drewN, heap_drew, World.size_alloc, Nat.left_eq_add, Nat.add_eq_left, Nat.reduceEqDiff, reduceIte, Nat.succ_ne_self, Nat.add_left_cancel_iff]) (by simp [Value.oneCell']) (by unfold maxLen; omega) (by omega) (by simp; omega) ?_; intro v5 w5 hown5 hgrow5; have HK5 : Hid (Keep (fun z => w2.heap.size ≤ z) wr w5) := Keep.grown (by (repeat (first | exact Keep.refl _ _ | exact Keep.refl _ _ | refine Keep.drew ?_ | refine Keep.drewN ?_ _ | refine Keep.alloc ?_ _ | refine Keep.setNew ?_ (by omega) _)); done) hgrow5 (fun z h1 h2 => (HOW.out.lt z h1).1); have HO5 : Hid (OwnL inE w5 w2.heap.size 3 v5 ((D.take (q + 1)).map Mv.f)) := (by unfold Hid; rw [HT.out]; unfold OwnL; rw [List.length_append, hml, inE.cs_append, inE.cs_one]; exact hown5); clear hown5 hgrow5))
          go_roundw
          case rel => exact ⟨q + 1, by omega, by go_num, _, rfl, HO5.out, HK2.out.trans HK5.out⟩
          case measure => simp [intOf]; omega
        · obtain rfl : q = D.length := by omega
          go_wp2
          go_ret
          have hw2 : w1.heap.size ≤ w2.heap.size := by omega
          refine ⟨o2, D, rfl, by rw [← hkl.out]; exact HD1.out, by have := HD2.out; rw [← hDl] at this; exact this, ?_, ?_⟩
          · have := HO2.out
            rw [List.take_length] at this
            exact this.base (fun z hz => by have := (HO2.out.lt z hz).1; omega)
          · refine Keep.fresh (B := w.heap.size) ((HK1.out.mono (T := fun z => w.heap.size ≤ z) (fun _ _ h => h.elim)).trans ((HK.out.mono (T := fun z => w.heap.size ≤ z) (fun z _ h => by omega)).trans ((HD4.out.mono (T := fun z => w.heap.size ≤ z) (fun z _ h => by have := (HOo.out.lt z h).1; omega)).trans (HK2.out.mono (T := fun z => w.heap.size ≤ z) (fun z _ h => by omega))))) (fun _ h => h) (Nat.le_refl _)

end Go.Proofs.Ytnlalihapmlceaa
